/- Walks of the reader's readBody, readSize, readChunk. -/
import Derived.Test.YtafhkpnmolfjeaaGreatDoorRqW
import Derived.Deep.RegionLaw
set_option linter.unusedVariables false
set_option linter.unusedSimpArgs false
namespace Go.Proofs.YtafhkpnmolfjeaaGreatDoor.Rq
open Go.RowKit Go.Proofs.YtafhkpnmolfjeaaGreatDoorW.PrintWords Go.Proofs.YtafhkpnmolfjeaaGreatDoor.PRequestBack

theorem Cut5.C {w : World} {A : Option Addr} {c : Nat} {xs : List UInt8} (h : Cut5 w (.slice A xs.length c) xs) : (Kd.int .u8).C w A xs.length (ints xs) := by
  obtain ⟨_, _, _, _, hm, _⟩ := h.sl
  refine ⟨ints_length xs, hm, fun h0 => ?_⟩
  obtain ⟨ad, c', hv, hle, hc⟩ := h.cell h0
  injection hv with e1 _ e3
  refine ⟨ad, e1, fun j p hp => ⟨[.int .u8 p], rfl, rfl, fun i u hu => ?_⟩⟩
  have hj : j < xs.length := by have := (List.getElem?_eq_some_iff.1 hp).1; rwa [ints_length] at this
  have h1 := hc j hj
  rw [List.getD_eq_getElem?_getD, hp] at h1
  cases i with
  | zero =>
    simp only [List.getElem?_cons_zero, Option.some.injEq] at hu
    subst hu
    have : (Kd.int .u8).sz = 1 := rfl
    rw [this, Nat.mul_one, Nat.add_zero]
    exact h1
  | succ i => simp at hu
theorem RdAt.bodyR {w : World} {S : Nat → Prop} {g : Nat} {r : Rd} {vw vh vb vt : Value} {T : Nat → Prop} (h : RdAt w S g r vw vh vb vt T) : (Kd.int .u8).R 5 w 0 (fun k => vb.ownBlock = some k) vb (ints r.body) :=
  Kd.R_of_own (by rw [ints_length]; exact h.body) (fun _ hk => hk)
theorem RdAt.pushBody {w2 w3 : World} {S : Nat → Prop} {g : Nat} {r : Rd} {vw vh vb vt v1 : Value} {T ok : Nat → Prop} (h : RdAt w2 S g r vw vh vb vt T) (hU : ∀ k, w2.heap.size ≤ k → S k) (hg : w2.grownBy w3 vb.ownBlock) (l : List UInt8) (hR : (Kd.int .u8).R 5 w3 0 ok v1 (ints r.body ++ ints l))
    (hat : v1.ownBlock = vb.ownBlock ∨ ∃ b, v1.ownBlock = some b ∧ w2.heap.size ≤ b) :
    Frame S w2 (w3.setCell ⟨g, 11, none⟩ v1) ∧ RdAt (w3.setCell ⟨g, 11, none⟩ v1) S g { r with body := r.body ++ l } vw vh v1 vt (fun k => T k ∧ k < w3.heap.size) := by
  have hne : ∀ (k : Nat) (c : Array Value) (t : TypeId), t ≠ 5 → w2.heap[k]? = some (.cells c t (0, 0)) → some k ≠ vb.ownBlock := by
    intro k c t ht hk e
    obtain ⟨c', h'⟩ := own_typed h.body k e.symm
    exact typed_ne h' hk (Ne.symm ht) rfl
  have hg3 : w3.heap[g]? = some (.cells (cellsRd g r vw vh vb vt) 56 (0, 0)) := (hg.block g h.lt (hne g _ 56 (by decide) h.cells)).trans h.cells
  refine ⟨(Frame.of_grown hg (fun k e => h.sb k e)).putIn h.own 11 _, ?_⟩
  have hown := Kd.own_of_R hR
  rw [← ints_append, ints_length] at hown
  refine RdAt.make hg3 (same_put (same_refl g w3) 11 _) (by simp) ?_ h.own (h.wait.move fun k c hk hh => hg.block k (Array.getElem?_eq_some_iff.1 hh).1 (fun e => (h.sw k hk).2.2 e.symm)) hown (U := fun k => vh.ownBlock = some k) (Kd.R_grown h.heads hg ?_) (Kd.R_mono (Kd.R_move (Kd.R_bound h.told) fun k hk => hg.block k hk.2.2.1 ?_) (fun _ hk => hk.1)) ?_ ?_ ?_ ?_
  · rw [heap_set hg3 11 _]; simp [cellsRd]
  · intro k hk
    obtain ⟨c, hc⟩ := R_typed h.heads k hk
    exact hne k c 38 (by decide) hc
  · obtain ⟨_, _, _, q, hq, c, hc⟩ := hk
    have hE : k53.E = [38] := rfl
    rw [hE] at hq
    simp only [List.mem_cons, List.not_mem_nil, or_false] at hq
    rcases hq with rfl | rfl
    · exact hne k c 53 (by decide) hc
    · exact hne k c 38 (by decide) hc
  · intro k hk
    have := h.sw k hk
    refine ⟨this.1, Nat.lt_of_lt_of_le this.2.1 hg.size, fun e => ?_⟩
    rcases hat with h1 | ⟨b, h1, h2⟩
    · exact this.2.2 (h1 ▸ e)
    · rw [h1] at e; injection e with e; omega
  · intro k hk
    rcases hat with h1 | ⟨b, h1, h2⟩
    · exact h.sb k (h1 ▸ hk)
    · rw [h1] at hk; injection hk with hk; exact hU k (by omega)
  · intro k hk _
    exact h.sh k hk
  · intro k hk _
    exact (h.st k hk).1

def bodyF (r : Rd) : Res :=
  if (r.wait.length : Int) < r.size then .wait r
  else doneF { r with wait := r.wait.drop r.size.toNat, used := r.used + r.size, body := r.body ++ r.wait.take r.size.toNat }
/-- What holds of a reader in its body. -/
structure BInv (r : Rd) : Prop where
  used0 : 0 ≤ r.used
  used : r.used + r.wait.length ≤ 1000000000000000
  wait : r.wait.length < 4294967281
  size0 : 0 ≤ r.size
  size : r.size ≤ 1000000
  body : r.body.length ≤ 1000000000
  told : r.told.length < 1000000000000
set_option maxRecDepth 100000 in
set_option maxHeartbeats 1600000 in
theorem readBody_res {w : World} {S : Nat → Prop} {g : Nat} {r : Rd} (h : IsRd w S g r) (hI : BInv r) (hU : ∀ k, w.heap.size ≤ k → S k) :
    Calls Tryz.prog 139 #[.pointer (some ⟨g, 0, none⟩)] w (ResAt w S g (bodyF r)) := by
  obtain ⟨vw, vh, vb, vt, T, h⟩ := h
  obtain ⟨Aw, cw, rfl, _⟩ := h.wait.sl
  obtain ⟨Ab, cb, rfl⟩ := own_slice h.body
  have k0 := cell_of_heap h.cells 0 (.slice Aw r.wait.length cw) rfl
  have k11 := cell_of_heap h.cells 11 (.slice Ab r.body.length cb) rfl
  have k12 := cell_of_heap h.cells 12 (.int .i64 r.size) rfl
  have b1 := hI.used0
  have b2 := hI.used
  have b3 := hI.wait
  have b4 := hI.size0
  have b5 := hI.size
  have b6 := hI.body
  have b7 := hI.told
  have H := Aside0.mk h
  have HU := Aside0.mk hU
  clear h hU hI
  go_enter Tryz.func139, Tryz.ntmps139
  by_cases hc : (r.wait.length : Int) < r.size
  · have HC := Aside0.mk hc
    go_wp2_with fail
    go_quiet (fail)
    go_wp2_with fail
    go_ret
    refine ⟨Frame.of_below (pw_below_drewN (Below.refl _ _) _), ?_⟩
    unfold bodyF
    rw [if_pos HC.out]
    exact ⟨rfl, _, _, _, _, _, H.out.drewN _⟩
  · have HC := Aside0.mk hc
    go_wp2_with fail
    go_quiet (fail)
    go_wp2_with fail
    have H1 := H.out.drewN nq
    have HF1 := Aside0.mk (Frame.of_below (S := S) (pw_below_drewN (Below.refl w.heap.size w) nq))
    clear k0 k11 k12
    revert H1 HF1
    generalize w.drewN nq = W1
    intro H1 HF1
    have H1d := Aside0.mk (H1.drewN 1)
    have k11 := cell_of_heap H1.cells 11 (.slice Ab r.body.length cb) rfl
    have k12 := cell_of_heap H1.cells 12 (.int .i64 r.size) rfl
    have hcut := H1d.out.wait.cut 0 r.size.toNat (by omega) (by omega)
    rw [List.drop_zero] at hcut
    have hlen : (r.wait.take r.size.toNat).length = r.size.toNat := by rw [List.length_take]; omega
    obtain ⟨A1, c1, hA1, _⟩ := hcut.sl
    rw [hlen] at hA1
    have CUT := Aside0.mk hcut
    have HA1 := Aside0.mk hA1
    have HLEN := Aside0.mk hlen
    clear hcut hA1 hlen H1 hc
    go_region_law (first
      | (refine Kd.R_append_rows_step (Kd.int .u8) (Rr := (Kd.int .u8).K w2) (w0 := w2) 0 rfl (.tmp 17) (.tmp 23) 40 5 (.int .u8 0) 1 rfl Tryz.underlying40 info5 rfl (by decide) (by decide) (.slice Ab r.body.length cb) (ints r.body) (ints (r.wait.take r.size.toNat)) A1 r.size.toNat c1 (fun k => (Value.slice Ab r.body.length cb).ownBlock = some k ∨ w2.heap.size ≤ k) (fun _ => False) (by simp [Act.eval, Act.put]) (by simp [Act.eval, Act.put]) (Kd.R_mono H2.out.bodyR (fun _ hk => Or.inl hk)) CUT2.out (fun _ _ h => h) (fun _ h => h.elim) (fun k hk => Or.inr hk) (Below.refl _ _) (Nat.zero_le _) (by rw [ints_length]; omega) ?_
         intro v1 w3 hR hB3 hg hat
         obtain ⟨Ab1, cb1, hv1⟩ := R_slice' hR
         rw [show (ints r.body ++ ints (r.wait.take r.size.toNat)).length = r.body.length + r.size.toNat from by rw [List.length_append, ints_length, ints_length, HLEN.out]] at hv1
         subst hv1
         have PB := Aside0.mk (RdAt.pushBody H2.out HU2.out hg (r.wait.take r.size.toNat) hR hat)
         have q11 := (cell_of_heap ((hg.block g H2.out.lt (fun e => by
           obtain ⟨c', h'⟩ := own_typed H2.out.body g e.symm
           exact typed_ne h' H2.out.cells (by decide) rfl)).trans H2.out.cells) 11 (.slice Ab r.body.length cb) rfl)
         have p11 := (frozen_of_heap ((hg.block g H2.out.lt (fun e => by
           obtain ⟨c', h'⟩ := own_typed H2.out.body g e.symm
           exact typed_ne h' H2.out.cells (by decide) rfl)).trans H2.out.cells) 11)
         clear hR hB3 hg hat)
      | (go_simp
         go_at_call 131
         refine (take_calls H1d.out r.size b4 (by omega) b1 (by omega)).mono ?_
         rintro e w2 ⟨rfl, hf, h2⟩
         rw [HA1.out]
         have HF2 := Aside0.mk (HF1.out.trans (((Frame.refl S W1).drewN 1).trans (hf.mono (fun k _ hk => hk ▸ h2.own))))
         have HU2 := Aside0.mk (fun k (hk : w2.heap.size ≤ k) => HU.out k (Nat.le_trans HF2.out.size hk))
         have CUT2 := Aside0.mk (show (Kd.int .u8).C w2 A1 r.size.toNat (ints (r.wait.take r.size.toNat)) from by
           have h3 := CUT.out.over hf H1d.out.cells
           rw [HA1.out] at h3
           have h4 := HLEN.out
           have h5 : Cut5 w2 (.slice A1 (r.wait.take r.size.toNat).length c1) (r.wait.take r.size.toNat) := by rw [h4]; exact h3
           have h6 := h5.C
           rw [h4] at h6
           exact h6)
         have H2 := Aside0.mk h2
         have q11 := cell_of_heap h2.cells 11 (.slice Ab r.body.length cb) rfl
         clear hf h2))
    all_goals
      have hl4 : w2.heap.size ≤ (w3.setCell ⟨g, 11, none⟩ (.slice Ab1 (r.body.length + r.size.toNat) cb1)).heap.size := PB.out.1.size
      revert PB hl4
      generalize w3.setCell ⟨g, 11, none⟩ (.slice Ab1 (r.body.length + r.size.toNat) cb1) = W4
      intro PB hl4
      clear k11 k12 q11 p11
      go_wp2_with fail
      refine (done_res ⟨_, _, _, _, _, PB.out.2⟩ (fun k hk => HU2.out k (Nat.le_trans hl4 hk)) b7).mono ?_
      rintro e w6 hres
      have HR6 := Aside0.mk hres
      obtain ⟨bb, rfl⟩ := hres.bool
      clear hres
      go_wp2_with fail
      go_ret
      show ResAt w S g (bodyF r) _ w6
      unfold bodyF
      rw [if_neg (show ¬ (r.wait.length : Int) < r.size by omega)]
      exact HR6.out.from (HF2.out.trans PB.out.1)
end Go.Proofs.YtafhkpnmolfjeaaGreatDoor.Rq
