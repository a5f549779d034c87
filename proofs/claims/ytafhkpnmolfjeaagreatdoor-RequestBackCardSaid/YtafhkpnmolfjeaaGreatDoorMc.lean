/- Walks of the reader's readBody, readSize, readChunk. · Walk of the reader's readChunk. · strconv.ParseUint at base 16 and 32 bits, of at most four bytes. · strconv.ParseUint, and the reader's readSize. -/
import Derived.Test.YtafhkpnmolfjeaaGreatDoorMa
import Derived.Deep.RegionLaw
import Derived.Test.YtafhkpnmolfjeaaGreatDoorMb
/-! ## RqC: Walks of the reader's readBody, readSize, readChunk. -/
set_option linter.unusedVariables false
set_option linter.unusedSimpArgs false
namespace Go.Proofs.YtafhkpnmolfjeaaGreatDoor.Rq
open Go.RowKit Go.Proofs.YtafhkpnmolfjeaaGreatDoorW.PrintWords Go.Proofs.YtafhkpnmolfjeaaGreatDoor.PRequestBack

theorem Cut5.C {w : World} {A : Option Addr} {c : Nat} {xs : List UInt8} (h : Cut5 w (.slice A xs.length c) xs) : (Kd.int .u8).C w A xs.length (ints xs) := by
  obtain ⟨_, _, _, _, hm, _⟩ := h.sl
  refine ⟨ints_length xs, hm, fun h0 => ?_⟩
  obtain ⟨ad, c', hv, hle, hc⟩ := h.cell h0
  injection hv with e1 _ e3
  refine ⟨ad, e1, fun j p hp => ⟨[.int .u8 p], rfl, rfl, fun i u hu => ?_⟩⟩
  have hj : j < xs.length := by have := (List.getElem?_eq_some_iff.1 hp).1; rwa [ints_length] at this
  have h1 := hc j hj
  rw [List.getD_eq_getElem?_getD, hp] at h1
  cases i with
  | zero =>
    simp only [List.getElem?_cons_zero, Option.some.injEq] at hu
    subst hu
    have : (Kd.int .u8).sz = 1 := rfl
    rw [this, Nat.mul_one, Nat.add_zero]
    exact h1
  | succ i => simp at hu
theorem RdAt.bodyR {w : World} {S : Nat → Prop} {g : Nat} {r : Rd} {vw vh vb vt : Value} {T : Nat → Prop} (h : RdAt w S g r vw vh vb vt T) : (Kd.int .u8).R 5 w 0 (fun k => vb.ownBlock = some k) vb (ints r.body) :=
  Kd.R_of_own (by rw [ints_length]; exact h.body) (fun _ hk => hk)
theorem RdAt.pushBody {w2 w3 : World} {S : Nat → Prop} {g : Nat} {r : Rd} {vw vh vb vt v1 : Value} {T ok : Nat → Prop} (h : RdAt w2 S g r vw vh vb vt T) (hU : ∀ k, w2.heap.size ≤ k → S k) (hg : w2.grownBy w3 vb.ownBlock) (l : List UInt8) (hR : (Kd.int .u8).R 5 w3 0 ok v1 (ints r.body ++ ints l))
    (hat : v1.ownBlock = vb.ownBlock ∨ ∃ b, v1.ownBlock = some b ∧ w2.heap.size ≤ b) :
    Frame S w2 (w3.setCell ⟨g, 11, none⟩ v1) ∧ RdAt (w3.setCell ⟨g, 11, none⟩ v1) S g { r with body := r.body ++ l } vw vh v1 vt (fun k => T k ∧ k < w3.heap.size) := by
  have hne : ∀ (k : Nat) (c : Array Value) (t : TypeId), t ≠ 5 → w2.heap[k]? = some (.cells c t (0, 0)) → some k ≠ vb.ownBlock := by
    intro k c t ht hk e
    obtain ⟨c', h'⟩ := own_typed h.body k e.symm
    exact typed_ne h' hk (Ne.symm ht) rfl
  have hg3 : w3.heap[g]? = some (.cells (cellsRd g r vw vh vb vt) 56 (0, 0)) := (hg.block g h.lt (hne g _ 56 (by decide) h.cells)).trans h.cells
  refine ⟨(Frame.of_grown hg (fun k e => h.sb k e)).putIn h.own 11 _, ?_⟩
  have hown := Kd.own_of_R hR
  rw [← ints_append, ints_length] at hown
  refine RdAt.make hg3 (same_put (same_refl g w3) 11 _) (by simp) ?_ h.own (h.wait.move fun k c hk hh => hg.block k (Array.getElem?_eq_some_iff.1 hh).1 (fun e => (h.sw k hk).2.2 e.symm)) hown (U := fun k => vh.ownBlock = some k) (Kd.R_grown h.heads hg ?_) (Kd.R_mono (Kd.R_move (Kd.R_bound h.told) fun k hk => hg.block k hk.2.2.1 ?_) (fun _ hk => hk.1)) ?_ ?_ ?_ ?_
  · rw [heap_set hg3 11 _]; simp [cellsRd]
  · intro k hk
    obtain ⟨c, hc⟩ := R_typed h.heads k hk
    exact hne k c 38 (by decide) hc
  · obtain ⟨_, _, _, q, hq, c, hc⟩ := hk
    have hE : k53.E = [38] := rfl
    rw [hE] at hq
    simp only [List.mem_cons, List.not_mem_nil, or_false] at hq
    rcases hq with rfl | rfl
    · exact hne k c 53 (by decide) hc
    · exact hne k c 38 (by decide) hc
  · intro k hk
    have := h.sw k hk
    refine ⟨this.1, Nat.lt_of_lt_of_le this.2.1 hg.size, fun e => ?_⟩
    rcases hat with h1 | ⟨b, h1, h2⟩
    · exact this.2.2 (h1 ▸ e)
    · rw [h1] at e; injection e with e; omega
  · intro k hk
    rcases hat with h1 | ⟨b, h1, h2⟩
    · exact h.sb k (h1 ▸ hk)
    · rw [h1] at hk; injection hk with hk; exact hU k (by omega)
  · intro k hk _
    exact h.sh k hk
  · intro k hk _
    exact (h.st k hk).1

def bodyF (r : Rd) : Res :=
  if (r.wait.length : Int) < r.size then .wait r
  else doneF { r with wait := r.wait.drop r.size.toNat, used := r.used + r.size, body := r.body ++ r.wait.take r.size.toNat }
/-- What holds of a reader in its body. -/
structure BInv (r : Rd) : Prop where
  used0 : 0 ≤ r.used
  used : r.used + r.wait.length ≤ 1000000000000000
  wait : r.wait.length < 4294967281
  size0 : 0 ≤ r.size
  size : r.size ≤ 1000000
  body : r.body.length ≤ 1000000000
  told : r.told.length < 1000000000000
set_option maxRecDepth 100000 in
set_option maxHeartbeats 1600000 in
theorem readBody_res {w : World} {S : Nat → Prop} {g : Nat} {r : Rd} (h : IsRd w S g r) (hI : BInv r) (hU : ∀ k, w.heap.size ≤ k → S k) :
    Calls Tryz.prog 139 #[.pointer (some ⟨g, 0, none⟩)] w (ResAt w S g (bodyF r)) := by
  obtain ⟨vw, vh, vb, vt, T, h⟩ := h
  obtain ⟨Aw, cw, rfl, _⟩ := h.wait.sl
  obtain ⟨Ab, cb, rfl⟩ := own_slice h.body
  have k0 := cell_of_heap h.cells 0 (.slice Aw r.wait.length cw) rfl
  have k11 := cell_of_heap h.cells 11 (.slice Ab r.body.length cb) rfl
  have k12 := cell_of_heap h.cells 12 (.int .i64 r.size) rfl
  have b1 := hI.used0
  have b2 := hI.used
  have b3 := hI.wait
  have b4 := hI.size0
  have b5 := hI.size
  have b6 := hI.body
  have b7 := hI.told
  have H := Aside0.mk h
  have HU := Aside0.mk hU
  clear h hU hI
  go_enter Tryz.func139, Tryz.ntmps139
  by_cases hc : (r.wait.length : Int) < r.size
  · have HC := Aside0.mk hc
    go_wp2_with fail
    go_quiet (fail)
    go_wp2_with fail
    go_ret
    refine ⟨Frame.of_below (pw_below_drewN (Below.refl _ _) _), ?_⟩
    unfold bodyF
    rw [if_pos HC.out]
    exact ⟨rfl, _, _, _, _, _, H.out.drewN _⟩
  · have HC := Aside0.mk hc
    go_wp2_with fail
    go_quiet (fail)
    go_wp2_with fail
    have H1 := H.out.drewN nq
    have HF1 := Aside0.mk (Frame.of_below (S := S) (pw_below_drewN (Below.refl w.heap.size w) nq))
    clear k0 k11 k12
    revert H1 HF1
    generalize w.drewN nq = W1
    intro H1 HF1
    have H1d := Aside0.mk (H1.drewN 1)
    have k11 := cell_of_heap H1.cells 11 (.slice Ab r.body.length cb) rfl
    have k12 := cell_of_heap H1.cells 12 (.int .i64 r.size) rfl
    have hcut := H1d.out.wait.cut 0 r.size.toNat (by omega) (by omega)
    rw [List.drop_zero] at hcut
    have hlen : (r.wait.take r.size.toNat).length = r.size.toNat := by rw [List.length_take]; omega
    obtain ⟨A1, c1, hA1, _⟩ := hcut.sl
    rw [hlen] at hA1
    have CUT := Aside0.mk hcut
    have HA1 := Aside0.mk hA1
    have HLEN := Aside0.mk hlen
    clear hcut hA1 hlen H1 hc
    go_region_law (first
      | (refine Kd.R_append_rows_step (Kd.int .u8) (Rr := (Kd.int .u8).K w2) (w0 := w2) 0 rfl (.tmp 17) (.tmp 23) 40 5 (.int .u8 0) 1 rfl Tryz.underlying40 info5 rfl (by decide) (by decide) (.slice Ab r.body.length cb) (ints r.body) (ints (r.wait.take r.size.toNat)) A1 r.size.toNat c1 (fun k => (Value.slice Ab r.body.length cb).ownBlock = some k ∨ w2.heap.size ≤ k) (fun _ => False) (by simp [Act.eval, Act.put]) (by simp [Act.eval, Act.put]) (Kd.R_mono H2.out.bodyR (fun _ hk => Or.inl hk)) CUT2.out (fun _ _ h => h) (fun _ h => h.elim) (fun k hk => Or.inr hk) (Below.refl _ _) (Nat.zero_le _) (by rw [ints_length]; omega) ?_
         intro v1 w3 hR hB3 hg hat
         obtain ⟨Ab1, cb1, hv1⟩ := R_slice' hR
         rw [show (ints r.body ++ ints (r.wait.take r.size.toNat)).length = r.body.length + r.size.toNat from by rw [List.length_append, ints_length, ints_length, HLEN.out]] at hv1
         subst hv1
         have PB := Aside0.mk (RdAt.pushBody H2.out HU2.out hg (r.wait.take r.size.toNat) hR hat)
         have q11 := (cell_of_heap ((hg.block g H2.out.lt (fun e => by
           obtain ⟨c', h'⟩ := own_typed H2.out.body g e.symm
           exact typed_ne h' H2.out.cells (by decide) rfl)).trans H2.out.cells) 11 (.slice Ab r.body.length cb) rfl)
         have p11 := (frozen_of_heap ((hg.block g H2.out.lt (fun e => by
           obtain ⟨c', h'⟩ := own_typed H2.out.body g e.symm
           exact typed_ne h' H2.out.cells (by decide) rfl)).trans H2.out.cells) 11)
         clear hR hB3 hg hat)
      | (go_simp
         go_at_call 131
         refine (take_calls H1d.out r.size b4 (by omega) b1 (by omega)).mono ?_
         rintro e w2 ⟨rfl, hf, h2⟩
         rw [HA1.out]
         have HF2 := Aside0.mk (HF1.out.trans (((Frame.refl S W1).drewN 1).trans (hf.mono (fun k _ hk => hk ▸ h2.own))))
         have HU2 := Aside0.mk (fun k (hk : w2.heap.size ≤ k) => HU.out k (Nat.le_trans HF2.out.size hk))
         have CUT2 := Aside0.mk (show (Kd.int .u8).C w2 A1 r.size.toNat (ints (r.wait.take r.size.toNat)) from by
           have h3 := CUT.out.over hf H1d.out.cells
           rw [HA1.out] at h3
           have h4 := HLEN.out
           have h5 : Cut5 w2 (.slice A1 (r.wait.take r.size.toNat).length c1) (r.wait.take r.size.toNat) := by rw [h4]; exact h3
           have h6 := h5.C
           rw [h4] at h6
           exact h6)
         have H2 := Aside0.mk h2
         have q11 := cell_of_heap h2.cells 11 (.slice Ab r.body.length cb) rfl
         clear hf h2))
    all_goals
      have hl4 : w2.heap.size ≤ (w3.setCell ⟨g, 11, none⟩ (.slice Ab1 (r.body.length + r.size.toNat) cb1)).heap.size := PB.out.1.size
      revert PB hl4
      generalize w3.setCell ⟨g, 11, none⟩ (.slice Ab1 (r.body.length + r.size.toNat) cb1) = W4
      intro PB hl4
      clear k11 k12 q11 p11
      go_wp2_with fail
      refine (done_res ⟨_, _, _, _, _, PB.out.2⟩ (fun k hk => HU2.out k (Nat.le_trans hl4 hk)) b7).mono ?_
      rintro e w6 hres
      have HR6 := Aside0.mk hres
      obtain ⟨bb, rfl⟩ := hres.bool
      clear hres
      go_wp2_with fail
      go_ret
      show ResAt w S g (bodyF r) _ w6
      unfold bodyF
      rw [if_neg (show ¬ (r.wait.length : Int) < r.size by omega)]
      exact HR6.out.from (HF2.out.trans PB.out.1)
end Go.Proofs.YtafhkpnmolfjeaaGreatDoor.Rq

/-! ## RqD: Walk of the reader's readChunk. -/
set_option linter.unusedVariables false
set_option linter.unusedSimpArgs false
namespace Go.Proofs.YtafhkpnmolfjeaaGreatDoor.Rq
open Go.RowKit Go.Proofs.YtafhkpnmolfjeaaGreatDoorW.PrintWords Go.Proofs.YtafhkpnmolfjeaaGreatDoor.PRequestBack

def Rd.chunked (r : Rd) : Rd := { r with wait := r.wait.drop (r.size.toNat + 2), used := r.used + (r.size + 2), body := r.body ++ r.wait.take r.size.toNat }
def chunkF (r : Rd) : Res :=
  if (r.wait.length : Int) < r.size + 2 then .wait r
  else if (r.wait.take (r.size.toNat + 2)).drop r.size.toNat = [13, 10] then
    (if r.size = 0 then doneF r.chunked else .more { r.chunked with nx := .size })
  else stopF 400 r
set_option maxRecDepth 100000 in
set_option maxHeartbeats 3200000 in
theorem readChunk_res {w : World} {S : Nat → Prop} {g : Nat} {r : Rd} (h : IsRd w S g r) (hI : BInv r) (hU : ∀ k, w.heap.size ≤ k → S k) :
    Calls Tryz.prog 177 #[.pointer (some ⟨g, 0, none⟩)] w (ResAt w S g (chunkF r)) := by
  obtain ⟨vw, vh, vb, vt, T, h⟩ := h
  obtain ⟨Aw, cw, rfl, _⟩ := h.wait.sl
  obtain ⟨Ab, cb, rfl⟩ := own_slice h.body
  have k0 := cell_of_heap h.cells 0 (.slice Aw r.wait.length cw) rfl
  have k12 := cell_of_heap h.cells 12 (.int .i64 r.size) rfl
  have b1 := hI.used0
  have b2 := hI.used
  have b3 := hI.wait
  have b4 := hI.size0
  have b5 := hI.size
  have b6 := hI.body
  have b7 := hI.told
  have H := Aside0.mk h
  have HU := Aside0.mk hU
  have h0 := h
  clear h hU hI
  by_cases hc : (r.wait.length : Int) < r.size + 2
  · have HC := Aside0.mk hc
    clear h0
    go_enter Tryz.func177, Tryz.ntmps177
    go_wp2_with fail
    go_quiet (fail)
    go_wp2_with fail
    go_ret
    refine ⟨Frame.of_below (pw_below_drewN (Below.refl _ _) _), ?_⟩
    unfold chunkF
    rw [if_pos HC.out]
    exact ⟨rfl, _, _, _, _, _, H.out.drewN _⟩
  · have HC := Aside0.mk hc
    obtain ⟨n, hn⟩ : ∃ n : Nat, r.size = n := ⟨r.size.toNat, by omega⟩
    have HN := Aside0.mk hn
    have hend := h0.wait.cut n (n + 2) (by omega) (by omega)
    have hel : ((r.wait.take (n + 2)).drop n).length = 2 := by simp; omega
    have e1 := run_cut h0.wait.sl (r.size) (r.size + 2) (by omega) (by omega) (by omega)
    rw [show (r.size + 2).toNat = n + 2 from by omega, show r.size.toNat = n from by omega] at e1
    obtain ⟨A3, c3, hv3, -⟩ := hend.sl
    rw [hel] at hv3
    rw [hv3] at e1 hend
    have cv3 : ∀ q : Nat, (convert 40 9 (.slice A3 2 c3)).run Tryz.prog (w.drewN q) = .ok (.string (str ((r.wait.take (n + 2)).drop n))) (w.drewN q) := fun q => (hend.move (w1 := w.drewN q) (fun _ _ _ _ => rfl)).text
    obtain ⟨sx, hsx⟩ : ∃ sx, sx = str ((r.wait.take (n + 2)).drop n) := ⟨_, rfl⟩
    rw [← hsx] at cv3
    have HSX := Aside0.mk hsx
    clear hend hsx h0
    have HF0 : chunkF r = (if sx.toList = [13, 10] then (if r.size = 0 then doneF r.chunked else .more { r.chunked with nx := .size }) else stopF 400 r) := by
      have : r.size.toNat = n := by omega
      unfold chunkF
      rw [if_neg hc, HSX.out, this, ByteArray.toList_eq]; rfl
    have HF := Aside0.mk HF0
    clear HF0 hv3 hel hn
    cases hx : (sx.toList == [13, 10])
    · have HX := Aside0.mk hx
      go_enter Tryz.func177, Tryz.ntmps177
      go_wp2_with fail
      go_quiet (fail)
      go_wp2_with fail
      go_quiet (fail)
      go_wp2_with fail
      refine (stop_res ⟨_, _, _, _, _, H.out.drewN _⟩ (fun k hk => HU.out k hk) 400 rfl b7).mono ?_
      rintro e w6 hres
      have HR6 := Aside0.mk hres
      obtain ⟨bb, rfl⟩ := hres.bool
      clear hres
      go_wp2_with fail
      go_ret
      show ResAt w S g (chunkF r) _ w6
      rw [HF.out, if_neg (by have := HX.out; rw [beq_eq_false_iff_ne] at this; exact this)]
      exact HR6.out.from ((Frame.refl S w).drewN _)
    · have HX := Aside0.mk hx
      go_enter Tryz.func177, Tryz.ntmps177
      go_wp2_with fail
      go_quiet (fail)
      revert nq
      intro nq1
      go_wp2_with fail
      go_quiet (fail)
      go_wp2_with fail
      have H1 := (H.out.drewN nq1).drewN nq
      have HF1 := Aside0.mk (((Frame.refl S w).drewN nq1).drewN nq)
      clear k0 k12 cv3 e1
      revert H1 HF1
      generalize (w.drewN nq1).drewN nq = W1
      intro H1 HF1
      have H1d := Aside0.mk (H1.drewN 1)
      have k11 := cell_of_heap H1.cells 11 (.slice Ab r.body.length cb) rfl
      have k12 := cell_of_heap H1.cells 12 (.int .i64 r.size) rfl
      have hcut := H1d.out.wait.cut 0 (n + 2) (by omega) (by have := HN.out; omega)
      rw [List.drop_zero] at hcut
      have hl2 : (r.wait.take (n + 2)).length = n + 2 := by rw [List.length_take]; have := HN.out; omega
      have hs2 := hcut.sl
      rw [hl2] at hs2
      have e2 := run_cut_h hs2 r.size (by omega) (by have := HN.out; omega)
      have hcut2 := hcut.cut 0 n (by omega) (by omega)
      rw [List.drop_zero, List.take_take, Nat.min_eq_left (by omega : n ≤ n + 2)] at hcut2
      rw [show r.size.toNat = n from by have := HN.out; omega] at e2
      have hl3 : (r.wait.take n).length = n := by rw [List.length_take]; have := HN.out; omega
      obtain ⟨A4, c4, hv4, _⟩ := hcut2.sl
      rw [hl3] at hv4
      rw [hv4] at e2
      obtain ⟨A1, c1, hA1, _⟩ := hs2
      rw [hA1] at e2
      have CUT := Aside0.mk hcut2
      have HA1 := Aside0.mk hA1
      have HV4 := Aside0.mk hv4
      have HLEN := Aside0.mk hl3
      clear hcut hcut2 hA1 hv4 hl2 hl3 H1 hc
      go_region_law (first
        | (refine Kd.R_append_rows_step (Kd.int .u8) (Rr := (Kd.int .u8).K w2) (w0 := w2) 0 rfl (.tmp 36) (.tmp 48) 40 5 (.int .u8 0) 1 rfl Tryz.underlying40 info5 rfl (by decide) (by decide) (.slice Ab r.body.length cb) (ints r.body) (ints (r.wait.take n)) A4 n c4 (fun k => (Value.slice Ab r.body.length cb).ownBlock = some k ∨ w2.heap.size ≤ k) (fun _ => False) (by simp [Act.eval, Act.put]) (by simp [Act.eval, Act.put]) (Kd.R_mono H2.out.bodyR (fun _ hk => Or.inl hk)) CUT2.out (fun _ _ h => h) (fun _ h => h.elim) (fun k hk => Or.inr hk) (Below.refl _ _) (Nat.zero_le _) (by rw [ints_length]; have := HN.out; omega) ?_
           intro v1 w3 hR hB3 hg hat
           obtain ⟨Ab1, cb1, hv1⟩ := R_slice' hR
           rw [show (ints r.body ++ ints (r.wait.take n)).length = r.body.length + n from by rw [List.length_append, ints_length, ints_length, HLEN.out]] at hv1
           subst hv1
           have PB := Aside0.mk (RdAt.pushBody H2.out HU2.out hg (r.wait.take n) hR hat)
           have q11 := (cell_of_heap ((hg.block g H2.out.lt (fun e => by
             obtain ⟨c', h'⟩ := own_typed H2.out.body g e.symm
             exact typed_ne h' H2.out.cells (by decide) rfl)).trans H2.out.cells) 11 (.slice Ab r.body.length cb) rfl)
           have p11 := (frozen_of_heap ((hg.block g H2.out.lt (fun e => by
             obtain ⟨c', h'⟩ := own_typed H2.out.body g e.symm
             exact typed_ne h' H2.out.cells (by decide) rfl)).trans H2.out.cells) 11)
           clear hR hB3 hg hat)
        | (go_simp
           go_at_call 131
           rw [wrap_small (r.size + 2) (by omega) (by omega)]
           refine (take_calls H1d.out (r.size + 2) (by omega) (by have := HN.out; omega) b1 (by omega)).mono ?_
           rintro e w2 ⟨rfl, hf, h2⟩
           have hto : (r.size + 2).toNat = n + 2 := by have := HN.out; omega
           rw [hto, HA1.out]
           have HF2 := Aside0.mk (HF1.out.trans (((Frame.refl S W1).drewN 1).trans (hf.mono (fun k _ hk => hk ▸ h2.own))))
           have HU2 := Aside0.mk (fun k (hk : w2.heap.size ≤ k) => HU.out k (Nat.le_trans HF2.out.size hk))
           have CUT2 := Aside0.mk (show (Kd.int .u8).C w2 A4 n (ints (r.wait.take n)) from by
             have h3 := CUT.out.over hf H1d.out.cells
             rw [HV4.out] at h3
             have h4 := HLEN.out
             have h5 : Cut5 w2 (.slice A4 (r.wait.take n).length c4) (r.wait.take n) := by rw [h4]; exact h3
             have h6 := h5.C
             rw [h4] at h6
             exact h6)
           have H2 := Aside0.mk h2
           have q11 := cell_of_heap h2.cells 11 (.slice Ab r.body.length cb) rfl
           have q12 := cell_of_heap h2.cells 12 (.int .i64 r.size) rfl
           clear hf h2))
      all_goals
        have hrc : IsRd (w3.setCell ⟨g, 11, none⟩ (.slice Ab1 (r.body.length + n) cb1)) S g r.chunked := by
          have h := PB.out.2
          have e1 : r.size.toNat = n := by have := HN.out; omega
          have hto' : (r.size + 2).toNat = r.size.toNat + 2 := by omega
          rw [hto'] at h
          rw [← e1] at h ⊢
          exact ⟨_, _, _, _, _, h⟩
        have HRC := Aside0.mk hrc
        have HFR := Aside0.mk (HF2.out.trans PB.out.1)
        clear PB hrc k11 k12 q11 p11 q12 CUT2 H2 CUT HA1 HV4 e2 H1d
        revert HRC HFR
        generalize w3.setCell ⟨g, 11, none⟩ (.slice Ab1 (r.body.length + n) cb1) = W4
        intro HRC HFR
        have hxx := HX.out
        rw [beq_iff_eq] at hxx
        have HF' := HF.out
        rw [if_pos hxx] at HF'
        have HG := Aside0.mk HF'
        clear HF' hxx HF hx
        obtain ⟨vw5, vh5, vb5, vt5, T5, h5⟩ := HRC.out
        have k12 := cell_of_heap h5.cells 12 (.int .i64 r.size) rfl
        have k2 := cell_of_heap h5.cells 2 (r.nx.val g) rfl
        have f2 := frozen_of_heap h5.cells 2
        have H5 := Aside0.mk h5
        clear h5
        by_cases hz : r.size = 0
        · have hzb : (r.size == 0) = true := by rw [beq_iff_eq]; exact hz
          have HZ := Aside0.mk hz
          clear hz
          go_wp2_with fail
          refine (done_res HRC.out (fun k hk => HU.out k (Nat.le_trans HFR.out.size hk)) b7).mono ?_
          rintro e w6 hres
          have HR6 := Aside0.mk hres
          obtain ⟨bb, rfl⟩ := hres.bool
          clear hres
          go_wp2_with fail
          go_ret
          show ResAt w S g (chunkF r) _ w6
          rw [HG.out, if_pos HZ.out]
          exact HR6.out.from HFR.out
        · have hzb : (r.size == 0) = false := by rw [beq_eq_false_iff_ne]; exact hz
          have HZ := Aside0.mk hz
          clear hz
          go_wp2_with fail
          go_ret
          show ResAt w S g (chunkF r) _ _
          rw [HG.out, if_neg HZ.out]
          refine ⟨HFR.out.putIn H5.out.own 2 _, rfl, vw5, vh5, vb5, vt5, T5, H5.out.turn ?_ (by simp) (same_put (same_refl g W4) 2 _) H5.out.wait (fun _ hk => hk) rfl rfl rfl⟩
          rw [heap_set H5.out.cells 2 _]; simp [cellsRd, Nx.val]
end Go.Proofs.YtafhkpnmolfjeaaGreatDoor.Rq

/-! ## RqU: strconv.ParseUint at base 16 and 32 bits, of at most four bytes. -/
set_option linter.unusedVariables false
set_option linter.unusedSimpArgs false
namespace Go.Proofs.YtafhkpnmolfjeaaGreatDoor.Rq
open Go.RowKit Go.Proofs.YtafhkpnmolfjeaaGreatDoorW.PrintWords Go.Proofs.YtafhkpnmolfjeaaGreatDoor.PRequestBack

def low8 (c : UInt8) : Int := bits .or .u8 (c.toNat : Int) 32
def digF (c : UInt8) : Option Int :=
  if 48 ≤ c.toNat ∧ c.toNat ≤ 57 then some ((c.toNat : Int) - 48)
  else if 97 ≤ low8 c ∧ low8 c < 103 then some (low8 c - 97 + 10) else none
def numF : List UInt8 → Int → Option Int
  | [], n => some n
  | c :: cs, n => match digF c with | none => none | some d => numF cs (n * 16 + d)
def hexF (s : List UInt8) : Option Int := if s = [] then none else numF s 0
theorem low8_range : ∀ n : Fin 256, 0 ≤ bits .or .u8 ((n.val : Nat) : Int) 32 ∧ bits .or .u8 ((n.val : Nat) : Int) 32 < 256 := by decide +kernel
theorem low8_bounds (c : UInt8) : 0 ≤ low8 c ∧ low8 c < 256 := low8_range ⟨c.toNat, c.toNat_lt⟩
theorem digF_range {c : UInt8} {d : Int} (h : digF c = some d) : 0 ≤ d ∧ d < 16 := by
  unfold digF at h
  split at h
  · injection h with h; omega
  · split at h
    · injection h with h; omega
    · cases h
theorem numF_range : ∀ (s : List UInt8) (n m : Int), 0 ≤ n → n < 1048576 → s.length ≤ 4 → n < 16 ^ (5 - s.length) → numF s n = some m → 0 ≤ m ∧ m < 1048576
  | [], n, m, h0, h1, _, _, h => by
    simp only [numF] at h
    injection h with h; omega
  | c :: cs, n, m, h0, h1, hl, hp, h => by
    simp only [numF] at h
    cases hd : digF c with
    | none => rw [hd] at h; cases h
    | some d =>
      rw [hd] at h
      have hr := digF_range hd
      simp only [List.length_cons] at hl hp
      have e : 5 - (cs.length + 1) + 1 = 5 - cs.length := by omega
      have hp' : n * 16 + d < 16 ^ (5 - cs.length) := by
        rw [← e, Int.pow_succ]
        generalize (16 : Int) ^ (5 - (cs.length + 1)) = z at hp ⊢
        omega
      have h5 : (16 : Int) ^ (5 - cs.length) ≤ 16 ^ 5 := by
        have : cs.length = 0 ∨ cs.length = 1 ∨ cs.length = 2 ∨ cs.length = 3 := by omega
        rcases this with h | h | h | h <;> rw [h] <;> decide
      have : (16 : Int) ^ 5 = 1048576 := by decide
      exact numF_range cs (n * 16 + d) m (by omega) (by omega) (by omega) hp' h

def HexAt (w : World) (r : Option Int) (e : Ending) (w' : World) : Prop := Below w.heap.size w w' ∧ match r with
  | some n => e = .returned (.tuple #[.int .u64 n, .nilIface])
  | none => ∃ v, e = .returned (.tuple #[.int .u64 v, .iface 232 (.int .i64 2)])
theorem HexAt.some_ {w w' : World} {n : Int} {r : Option Int} (hb : Below w.heap.size w w') (h : r = some n) : HexAt w r (.returned (.tuple #[.int .u64 n, .nilIface])) w' := by subst h; exact ⟨hb, rfl⟩
theorem HexAt.none_ {w w' : World} {v : Int} {r : Option Int} (hb : Below w.heap.size w w') (h : r = none) : HexAt w r (.returned (.tuple #[.int .u64 v, .iface 232 (.int .i64 2)])) w' := by subst h; exact ⟨hb, _, rfl⟩
set_option maxRecDepth 100000 in
set_option maxHeartbeats 1600000 in
theorem hex199_calls (s : List UInt8) (hs : s.length ≤ 4) (w : World) :
    Calls Tryz.prog 199 #[.string (str s), .int .i64 16, .int .i64 32] w (HexAt w (hexF s)) := by
  by_cases h0 : s = []
  · subst h0
    have e0 : ((str []).toList == ([] : List UInt8)) = true := by rw [ByteArray.toList_eq]; rfl
    go_enter Tryz.func199, Tryz.ntmps199
    go_wp2_with fail
    go_ret2
    exact HexAt.none_ (Below.refl _ _) rfl
  · have hz : hexF s = numF s 0 := by unfold hexF; rw [if_neg h0]
    have HZ := Aside0.mk hz
    have kb : ∀ W, (convert 9 40 (.string (str s))).run Tryz.prog W = .ok (.slice (some ⟨W.heap.size, 0, none⟩) s.length (grownCap W s.length 0 5)) (Lib.bytesWorld W 5 (str s)) := fun W => print_bytes (P := Tryz.prog) 9 40 5 Tryz.underlying9 Tryz.underlying40 Tryz.underlying5 (str s) W
    have e0 : ((str s).toList == ([] : List UInt8)) = false := by rw [ByteArray.toList_eq, beq_eq_false_iff_ne]; exact h0
    have H0 := Aside0.mk h0
    clear h0 hz
    go_enter Tryz.func199, Tryz.ntmps199
    go_wp2_with fail
    have hrow := Lib.bytesWorld_at_new w 5 (str s)
    have hold := fun j hj => Lib.bytesWorld_at_old w 5 (str s) j hj
    have hsz := Lib.bytesWorld_size w 5 (str s)
    have hos : (Lib.bytesWorld w 5 (str s)).os = w.os ∧ (Lib.bytesWorld w 5 (str s)).tape = w.tape ∧ (Lib.bytesWorld w 5 (str s)).output = w.output := ⟨rfl, rfl, rfl⟩
    have hcells : ∀ (j : Nat) (x : UInt8), s[j]? = some x → (Lib.bytesWorld w 5 (str s)).cell? ⟨w.heap.size, j, none⟩ = some (Value.int .u8 x.toNat) := by
      intro j x hx
      have hj := (List.getElem?_eq_some_iff.1 hx).1
      have hs' : j < (str s).data.size := hj
      simp only [World.cell?, hrow]
      unfold Lib.bytesCells
      show ((str s).data.map _ ++ _)[j]? = _
      rw [Array.getElem?_append_left (by simpa using hs'), Array.getElem?_map]
      have h2 : (str s).data[j]? = s[j]? := by simp [str]
      rw [h2, hx]; rfl
    have hB : Below w.heap.size w (Lib.bytesWorld w 5 (str s)) := ⟨hos.1, hos.2.1, hos.2.2, by rw [hsz]; omega, hold⟩
    have HB := Aside0.mk hB
    have HC := Aside0.mk hcells
    clear kb hrow hold hsz hos hcells hB e0
    revert HB HC
    generalize Lib.bytesWorld w 5 (str s) = W4
    generalize grownCap w s.length 0 5 = cap
    generalize hBw : w.heap.size = B
    intro HB HC
    have HBw := Aside0.mk hBw
    clear hBw
    go_loopw [12, 13, 101] (fun b n i wr => b = .bool false ∧ wr = W4 ∧ ∃ (k : Nat) (m : Int), k ≤ s.length ∧ i = .int .i64 k ∧ n = .int .u64 m ∧ 0 ≤ m ∧ m < 16 ^ k ∧ Aside0 (numF (s.drop k) m = numF s 0)) (fun _ _ i _ => s.length - (intOf i).toNat)
    case atStart => exact ⟨rfl, rfl, 0, 0, Nat.zero_le _, rfl, rfl, by omega, by decide, ⟨rfl⟩⟩
    case round =>
      obtain ⟨rfl, rfl, k, m, hk, rfl, rfl, hm0, hm1, hN⟩ := hrel
      by_cases hlt : k < s.length
      · have hx : s[k]? = some s[k] := List.getElem?_eq_getElem hlt
        have hdr : s.drop k = s[k] :: s.drop (k + 1) := List.drop_eq_getElem_cons hlt
        generalize s[k] = x at hx hdr
        have kc := HC.out k x hx
        have xr := x.toNat_lt
        have hm4 : (16 : Int) ^ k ≤ 16 ^ 3 := by
          have : k = 0 ∨ k = 1 ∨ k = 2 ∨ k = 3 := by omega
          rcases this with h | h | h | h <;> rw [h] <;> decide
        have hm5 : m < 4096 := by have : (16 : Int) ^ 3 = 4096 := by decide
                                  omega
        have hpow : (16 : Int) ^ (k + 1) = 16 ^ k * 16 := Int.pow_succ _ _
        have hstep : ∀ d, digF x = some d → numF (s.drop (k + 1)) (m * 16 + d) = numF s 0 := by
          intro d hd
          have := hN.out
          rw [hdr] at this
          simp only [numF, hd] at this
          exact this
        have hstop : digF x = none → hexF s = none := by
          intro hd
          have := hN.out
          rw [hdr] at this
          simp only [numF, hd] at this
          rw [HZ.out, ← this]
        have HP := Aside0.mk (And.intro hpow (And.intro hm1 (And.intro hstep hstop)))
        have HX := Aside0.mk hx
        have hll := low8_bounds x
        clear hpow hm1 hstep hstop hx hdr hm4
        by_cases h95 : x.toNat = 95
        · have hd : digF x = none := by
            have : x = 95 := UInt8.toNat_inj.1 h95
            subst this; decide
          have HD := Aside0.mk (HP.out.2.2.2 hd)
          rw [h95] at kc
          clear hd
          go_wp2_with fail
          have e127 : bits .or .u8 95 32 = 127 := by decide
          refine (Tryz.internal_strconv_lower _ _).mono ?_
          rintro e w5 ⟨rfl, rfl⟩
          rw [e127]
          go_wp2_with fail
          refine (Tryz.internal_strconv_lower _ _).mono ?_
          rintro e w5 ⟨rfl, rfl⟩
          rw [e127]
          go_wp2_with fail
          go_ret2
          exact HexAt.none_ (HBw.out ▸ HB.out) HD.out
        · have h95b : ((x.toNat : Int) == 95) = false := by rw [beq_eq_false_iff_ne]; omega
          by_cases hdig : 48 ≤ x.toNat ∧ x.toNat ≤ 57
          · have hd : digF x = some ((x.toNat : Int) - 48) := by unfold digF; rw [if_pos hdig]
            have HD := Aside0.mk (HP.out.2.2.1 _ hd)
            have d1 : (48 : Int) ≤ (x.toNat : Int) := by omega
            have d2 : (x.toNat : Int) ≤ 57 := by omega
            clear hd
            go_wp2_with fail
            go_roundw
            case rel =>
              have h1 := HP.out.1
              have h2 := HP.out.2.1
              refine ⟨rfl, trivial, k + 1, m * 16 + ((x.toNat : Int) - 48), by omega, by go_num, rfl, by omega, ?_, HD⟩
              rw [h1]
              generalize (16 : Int) ^ k = z at h2 ⊢
              omega
            case measure => simp [intOf]; omega
          · have hl : bits .or .u8 (x.toNat : Int) 32 = low8 x := rfl
            have dec : ∃ b1 b2 : Bool, decide ((48 : Int) ≤ (x.toNat : Int)) = b1 ∧ decide ((x.toNat : Int) ≤ 57) = b2 ∧ (b1 && b2) = false := by
              refine ⟨_, _, rfl, rfl, ?_⟩
              rw [Bool.and_eq_false_iff, decide_eq_false_iff_not, decide_eq_false_iff_not]
              omega
            have d2 : (48 : Int) ≤ (x.toNat : Int) → ¬ (x.toNat : Int) ≤ 57 := by omega
            clear dec
            by_cases hg : 97 ≤ low8 x ∧ low8 x < 103
            · have hd : digF x = some (low8 x - 97 + 10) := by unfold digF; rw [if_neg hdig, if_pos hg]
              have HD := Aside0.mk (HP.out.2.2.1 _ hd)
              obtain ⟨ha, hc⟩ := hg
              have hb : low8 x ≤ 122 := by omega
              clear hd hdig
              by_cases d1 : (48 : Int) ≤ (x.toNat : Int)
              case' pos => have d3 := d2 d1
              all_goals
                clear d2
                go_wp2_with fail
                refine (Tryz.internal_strconv_lower _ _).mono ?_
                rintro e w5 ⟨rfl, rfl⟩
                rw [hl]
                go_wp2_with fail
                refine (Tryz.internal_strconv_lower _ _).mono ?_
                rintro e w5 ⟨rfl, rfl⟩
                rw [hl]
                go_wp2_with fail
                refine (Tryz.internal_strconv_lower _ _).mono ?_
                rintro e w5 ⟨rfl, rfl⟩
                rw [hl]
                go_wp2_with fail
                go_roundw
                case rel =>
                  have h1 := HP.out.1
                  have h2 := HP.out.2.1
                  refine ⟨rfl, trivial, k + 1, m * 16 + (low8 x - 97 + 10), by omega, by go_num, rfl, by omega, ?_, HD⟩
                  rw [h1]
                  generalize (16 : Int) ^ k = z at h2 ⊢
                  omega
                case measure => simp [intOf]; omega
            · have hd : digF x = none := by unfold digF; rw [if_neg hdig, if_neg hg]
              have HD := Aside0.mk (HP.out.2.2.2 hd)
              clear hd hdig
              by_cases ha : 97 ≤ low8 x
              · have hc : ¬ low8 x < 103 := fun h => hg ⟨ha, h⟩
                clear hg
                by_cases hb : low8 x ≤ 122
                · by_cases d1 : (48 : Int) ≤ (x.toNat : Int)
                  case' pos => have d3 := d2 d1
                  all_goals
                    clear d2
                    go_wp2_with fail
                    refine (Tryz.internal_strconv_lower _ _).mono ?_
                    rintro e w5 ⟨rfl, rfl⟩
                    rw [hl]
                    go_wp2_with fail
                    refine (Tryz.internal_strconv_lower _ _).mono ?_
                    rintro e w5 ⟨rfl, rfl⟩
                    rw [hl]
                    go_wp2_with fail
                    refine (Tryz.internal_strconv_lower _ _).mono ?_
                    rintro e w5 ⟨rfl, rfl⟩
                    rw [hl]
                    go_wp2_with fail
                    go_ret2
                    exact HexAt.none_ (HBw.out ▸ HB.out) HD.out
                · by_cases d1 : (48 : Int) ≤ (x.toNat : Int)
                  case' pos => have d3 := d2 d1
                  all_goals
                    clear d2
                    go_wp2_with fail
                    refine (Tryz.internal_strconv_lower _ _).mono ?_
                    rintro e w5 ⟨rfl, rfl⟩
                    rw [hl]
                    go_wp2_with fail
                    refine (Tryz.internal_strconv_lower _ _).mono ?_
                    rintro e w5 ⟨rfl, rfl⟩
                    rw [hl]
                    go_wp2_with fail
                    go_ret2
                    exact HexAt.none_ (HBw.out ▸ HB.out) HD.out
              · clear hg
                by_cases d1 : (48 : Int) ≤ (x.toNat : Int)
                case' pos => have d3 := d2 d1
                all_goals
                  clear d2
                  go_wp2_with fail
                  refine (Tryz.internal_strconv_lower _ _).mono ?_
                  rintro e w5 ⟨rfl, rfl⟩
                  rw [hl]
                  go_wp2_with fail
                  go_ret2
                  exact HexAt.none_ (HBw.out ▸ HB.out) HD.out
      · have hkk : k = s.length := by omega
        have hd0 : s.drop k = [] := by rw [hkk]; exact List.drop_length
        have hfin := hN.out
        rw [hd0] at hfin
        simp only [numF] at hfin
        have HFin := Aside0.mk (HZ.out.trans hfin.symm)
        clear hfin hd0
        go_wp2_with fail
        go_ret2
        exact HexAt.some_ (HBw.out ▸ HB.out) HFin.out
end Go.Proofs.YtafhkpnmolfjeaaGreatDoor.Rq

/-! ## RqS: strconv.ParseUint, and the reader's readSize. -/
set_option linter.unusedVariables false
set_option linter.unusedSimpArgs false
namespace Go.Proofs.YtafhkpnmolfjeaaGreatDoor.Rq
open Go.RowKit Go.Proofs.YtafhkpnmolfjeaaGreatDoorW.PrintWords Go.Proofs.YtafhkpnmolfjeaaGreatDoor.PRequestBack

def ParseAt (w : World) (r : Option Int) (e : Ending) (w' : World) : Prop := Below w.heap.size w w' ∧ ((∃ n, r = some n ∧ e = .returned (.tuple #[.int .u64 n, .nilIface])) ∨ (r = none ∧ ∃ v N, e = .returned (.tuple #[.int .u64 v, .iface 235 (.pointer (some ⟨N, 0, none⟩))])))
set_option maxRecDepth 100000 in
set_option maxHeartbeats 1600000 in
theorem parse_calls (s : List UInt8) (hs : s.length ≤ 4) (w : World) (hG : Glob w) :
    Calls Tryz.prog 176 #[.string (str s), .int .i64 16, .int .i64 32] w (ParseAt w (hexF s)) := by
  have HG := Aside0.mk hG
  clear hG
  go_enter Tryz.func176, Tryz.ntmps176
  go_wp2_with fail
  refine (hex199_calls s hs w).mono ?_
  rintro e w1 ⟨hB, hp⟩
  have HB := Aside0.mk hB
  clear hB
  cases hr : hexF s with
  | some n =>
    rw [hr] at hp
    obtain rfl := hp
    go_wp2_with fail
    go_ret2
    exact ⟨HB.out, .inl ⟨n, hr, rfl⟩⟩
  | none =>
    rw [hr] at hp
    obtain ⟨v, rfl⟩ := hp
    obtain ⟨_, ⟨t, p, h2⟩, _⟩ := HG.out.below HB.out
    have H2 := Aside0.mk h2
    clear h2
    go_wp2_with fail
    refine (Tryz.strconv_toError_syntax _ _ _ _ _ _ (by rw [str_size]; omega) H2.out (.inr ⟨t, p, rfl⟩)).mono ?_
    rintro e w2 ⟨N, rfl, _, _, hb⟩
    have HB2 := Aside0.mk (below_step HB.out hb)
    clear hb
    go_wp2_with fail
    go_ret2
    exact ⟨HB2.out, .inr ⟨hr, v, N, rfl⟩⟩
def Rd.cutLine (r : Rd) (i : Nat) : Rd := { r with wait := r.wait.drop (i + 2), used := r.used + (i + 2) }
def sizeF (r : Rd) : Res :=
  if crlf r.wait < 0 ∨ 6 < crlf r.wait + 2 then (if (6 : Int) ≤ r.wait.length then stopF 400 r else .wait r)
  else match hexF (r.wait.take (crlf r.wait).toNat) with
    | none => stopF 400 (r.cutLine (crlf r.wait).toNat)
    | some n => if 8192 < (r.body.length : Int) + n then stopF 413 (r.cutLine (crlf r.wait).toNat)
      else .more { r.cutLine (crlf r.wait).toNat with size := n, nx := .chunk }
theorem hexF_range {s : List UInt8} (hs : s.length ≤ 4) {n : Int} (h : hexF s = some n) : 0 ≤ n ∧ n < 1048576 := by
  unfold hexF at h
  split at h
  · cases h
  · refine numF_range s 0 n (by omega) (by omega) hs ?_ h
    have : s.length = 0 ∨ s.length = 1 ∨ s.length = 2 ∨ s.length = 3 ∨ s.length = 4 := by omega
    rcases this with h | h | h | h | h <;> rw [h] <;> decide
set_option maxRecDepth 100000 in
set_option maxHeartbeats 1600000 in
theorem readSize_res {w : World} {S : Nat → Prop} {g : Nat} {r : Rd} (h : IsRd w S g r) (hI : BInv r) (hU : ∀ k, w.heap.size ≤ k → S k) (hS : ∀ k, S k → 9 ≤ k) (hG : Glob w) :
    Calls Tryz.prog 137 #[.pointer (some ⟨g, 0, none⟩)] w (ResAt w S g (sizeF r)) := by
  obtain ⟨vw, vh, vb, vt, T, h⟩ := h
  obtain ⟨mx, hmx⟩ := hG.maxLen
  have b1 := hI.used0
  have b2 := hI.used
  have b3 := hI.wait
  have b6 := hI.body
  have b7 := hI.told
  have H := Aside0.mk h
  have HU := Aside0.mk hU
  have HS := Aside0.mk hS
  have HG := Aside0.mk hG
  have HM := Aside0.mk hmx
  clear h hU hS hG hmx hI
  by_cases hi : crlf r.wait < 0 ∨ 6 < crlf r.wait + 2
  · have hs1 : sizeF r = (if (6 : Int) ≤ r.wait.length then stopF 400 r else .wait r) := by unfold sizeF; rw [if_pos hi]
    have HS1 := Aside0.mk hs1
    clear hs1
    go_enter Tryz.func137, Tryz.ntmps137
    go_wp2_with fail
    refine (line_no HM.out H.out 6 (by omega) (by omega) b3 hi).mono ?_
    rintro e w1 ⟨rfl, hB⟩
    have H2 := Aside0.mk (H.out.move hB.size (fun k _ hk => hB.block k hk))
    have HF2 := Aside0.mk (Frame.of_below (S := S) hB)
    have HU2 := Aside0.mk (fun k (hk : w1.heap.size ≤ k) => HU.out k (Nat.le_trans HF2.out.size hk))
    clear hB
    by_cases hlong : (6 : Int) ≤ r.wait.length
    · have hd : decide ((6 : Int) ≤ (r.wait.length : Int)) = true := decide_eq_true hlong
      go_wp2_with fail
      refine (stop_res ⟨_, _, _, _, _, H2.out⟩ HU2.out 400 rfl b7).mono ?_
      rintro e w6 hres
      have HR6 := Aside0.mk hres
      obtain ⟨bb, rfl⟩ := hres.bool
      clear hres
      go_wp2_with fail
      go_ret
      show ResAt w S g (sizeF r) _ w6
      rw [HS1.out, if_pos hlong]
      exact HR6.out.from HF2.out
    · have hd : decide ((6 : Int) ≤ (r.wait.length : Int)) = false := decide_eq_false hlong
      have HL := Aside0.mk hlong
      go_wp2_with fail
      go_ret
      show ResAt w S g (sizeF r) _ w1
      rw [HS1.out, if_neg (by have := HL.out; omega)]
      exact ⟨HF2.out, rfl, _, _, _, _, _, H2.out⟩
  · obtain ⟨i, hci⟩ : ∃ i : Nat, crlf r.wait = i := ⟨(crlf r.wait).toNat, by omega⟩
    have hcs := crlf_size r.wait (by omega)
    rw [hci] at hi hcs
    have hs1 : sizeF r = (match hexF (r.wait.take i) with
        | none => stopF 400 (r.cutLine i)
        | some n => if 8192 < (r.body.length : Int) + n then stopF 413 (r.cutLine i) else .more { r.cutLine i with size := n, nx := .chunk }) := by
      unfold sizeF
      rw [hci, if_neg hi]
      rfl
    have HS1 := Aside0.mk hs1
    have HCI := Aside0.mk hci
    clear hs1 hci
    have hil : (r.wait.take i).length = i := by rw [List.length_take]; omega
    have him : ¬ (6 : Int) < (i : Int) + 2 := by omega
    have hi4 : i ≤ 4 := by omega
    clear hi
    go_enter Tryz.func137, Tryz.ntmps137
    go_wp2_with fail
    refine (line_ok HM.out H.out 6 (by omega) b3 b1 (by omega) i HCI.out (by omega)).mono ?_
    rintro e w2 ⟨l, vw1, rfl, hcut, hlb, h2, hvb, hf2⟩
    obtain ⟨Al, cl, rfl, _⟩ := hcut.sl
    rw [hil] at hcut ⊢
    have cv := hcut.text
    have HC := Aside0.mk hcut
    have H2 := Aside0.mk (show RdAt w2 S g (r.cutLine i) vw1 vh vb vt T from h2)
    have HF2 := Aside0.mk (hf2.mono (fun k _ hk => hk ▸ h2.own) : Frame S w w2)
    have HIL := Aside0.mk hil
    clear hcut h2 hf2 hlb hvb hil H
    go_wp2_with fail
    refine (parse_calls (r.wait.take i) (by rw [HIL.out]; exact hi4) w2 (HG.out.frame HF2.out HS.out)).mono ?_
    rintro e w3 ⟨hB3, hp⟩
    have H3 := Aside0.mk (H2.out.move hB3.size (fun k _ hk => hB3.block k hk))
    have HF3 := Aside0.mk (HF2.out.trans (Frame.of_below (S := S) hB3))
    have HU3 := Aside0.mk (fun k (hk : w3.heap.size ≤ k) => HU.out k (Nat.le_trans HF3.out.size hk))
    clear hB3 H2 HF2 cv HC
    rcases hp with ⟨n, hn, rfl⟩ | ⟨hn, v, N, rfl⟩
    · have HN := Aside0.mk hn
      obtain ⟨n0, n1⟩ := hexF_range (by rw [HIL.out]; exact hi4) hn
      clear hn
      obtain ⟨Ab, cb, rfl⟩ := own_slice H3.out.body
      have k11 := cell_of_heap H3.out.cells 11 (.slice Ab r.body.length cb) rfl
      have k12 := cell_of_heap H3.out.cells 12 (.int .i64 r.size) rfl
      have f12 := frozen_of_heap H3.out.cells 12
      have k2 := cell_of_heap H3.out.cells 2 (r.nx.val g) rfl
      have f2 := frozen_of_heap H3.out.cells 2
      by_cases hbig : 8192 < (r.body.length : Int) + n
      · have HB := Aside0.mk hbig
        go_wp2_with fail
        refine (stop_res ⟨_, _, _, _, _, H3.out⟩ HU3.out 413 rfl b7).mono ?_
        rintro e w6 hres
        have HR6 := Aside0.mk hres
        obtain ⟨bb, rfl⟩ := hres.bool
        clear hres
        go_wp2_with fail
        go_ret
        show ResAt w S g (sizeF r) _ w6
        rw [HS1.out, HN.out]
        show ResAt w S g (if 8192 < (r.body.length : Int) + n then _ else _) _ w6
        rw [if_pos HB.out]
        exact HR6.out.from HF3.out
      · have HB := Aside0.mk hbig
        go_wp2_with fail
        go_ret
        show ResAt w S g (sizeF r) _ _
        rw [HS1.out, HN.out]
        show ResAt w S g (if 8192 < (r.body.length : Int) + n then _ else _) _ _
        rw [if_neg (by have := HB.out; omega)]
        refine ⟨(HF3.out.putIn H3.out.own 12 _).putIn H3.out.own 2 _, rfl, vw1, vh, _, vt, T, H3.out.turn ?_ (by simp) (same_put (same_put (same_refl g w3) 12 _) 2 _) H3.out.wait (fun _ hk => hk) rfl rfl rfl⟩
        rw [heap_set (heap_set H3.out.cells 12 _) 2 _]; simp [cellsRd, Nx.val, Rd.cutLine]
    · have HN := Aside0.mk hn
      clear hn
      go_wp2_with fail
      refine (stop_res ⟨_, _, _, _, _, H3.out⟩ HU3.out 400 rfl b7).mono ?_
      rintro e w6 hres
      have HR6 := Aside0.mk hres
      obtain ⟨bb, rfl⟩ := hres.bool
      clear hres
      go_wp2_with fail
      go_ret
      show ResAt w S g (sizeF r) _ w6
      rw [HS1.out, HN.out]
      exact HR6.out.from HF3.out
end Go.Proofs.YtafhkpnmolfjeaaGreatDoor.Rq
