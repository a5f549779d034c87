/- Walk of the reader's done. -/
import Derived.Test.YtafhkpnmolfjeaaGreatDoorRq3
import Derived.Deep.RegionLaw
set_option linter.unusedVariables false
set_option linter.unusedSimpArgs false
namespace Go.Proofs.YtafhkpnmolfjeaaGreatDoor.Rq
open Go.RowKit Go.Proofs.YtafhkpnmolfjeaaGreatDoorW.PrintWords Go.Proofs.YtafhkpnmolfjeaaGreatDoor.PRequestBack

theorem grown_told {W w1 : World} {g : Nat} {cs : Array Value} {T : Nat → Prop} {vt : Value} {l : List S53} (hc : W.heap[g]? = some (.cells cs 56 (0, 0))) (hR : k53.R 53 W 0 T vt l) (hg : W.grownBy w1 vt.ownBlock) : w1.heap[g]? = some (.cells cs 56 (0, 0)) := by
  refine (hg.block g (Array.getElem?_eq_some_iff.1 hc).1 (fun e => ?_)).trans hc
  obtain ⟨c, h⟩ := R_typed hR g e.symm
  exact typed_ne h hc (by decide) rfl
def Rd.whole (r : Rd) : S24 := { r.q with f3 := str r.body }
/-- The reader in block g is over; what it told lies in vt. -/
structure OvAt (w : World) (S : Nat → Prop) (g : Nat) (vt : Value) (T : Nat → Prop) (l : List S53) : Prop where
  cells : ∃ cs, w.heap[g]? = some (.cells cs 56 (0, 0)) ∧ cs[2]? = some .nilFunc ∧ cs[13]? = some vt
  own : S g
  told : k53.R 53 w 0 T vt l
  st : ∀ k, T k → S k ∧ k < w.heap.size
theorem OvAt.make {w1 w2 : World} {S T : Nat → Prop} {g : Nat} {vt : Value} {l : List S53} {cs cs2 : Array Value} (hg1 : w1.heap[g]? = some (.cells cs 56 (0, 0))) (hm : ∀ k, k ≠ g → k < w1.heap.size → w2.heap[k]? = w1.heap[k]?)
    (hc : w2.heap[g]? = some (.cells cs2 56 (0, 0))) (h2 : cs2[2]? = some .nilFunc) (h13 : cs2[13]? = some vt) (own : S g) (told : k53.R 53 w1 0 T vt l) (st : ∀ k, T k → k < w1.heap.size → S k) : OvAt w2 S g vt (fun k => T k ∧ k < w1.heap.size) l := by
  have hR : k53.R 53 w2 0 (fun k => T k ∧ k < w1.heap.size) vt l := by
    refine Kd.R_mono (Kd.R_move (Kd.R_bound told) fun k hk => hm k (fun e => ?_) hk.2.2.1) (fun _ hk => ⟨hk.1, hk.2.2.1⟩)
    obtain ⟨_, _, _, q, hq, c, hc⟩ := hk
    rw [e, hg1] at hc; injection hc with hc; injection hc with _ ht
    have hE : k53.E = [38] := rfl
    rw [hE, ← ht] at hq; exact absurd hq (by decide)
  have hR' : k53.R 53 w2 0 (fun k => (T k ∧ k < w1.heap.size) ∧ k < w2.heap.size) vt l := Kd.R_mono (Kd.R_bound hR) (fun _ hk => ⟨hk.1, hk.2.2.1⟩)
  by_cases hs : w1.heap.size ≤ w2.heap.size
  · exact ⟨⟨cs2, hc, h2, h13⟩, own, hR, fun k hk => ⟨st k hk.1 hk.2, by omega⟩⟩
  · exfalso
    have hl : g < w2.heap.size := (Array.getElem?_eq_some_iff.1 hc).1
    have := hm (w2.heap.size) (by omega) (by omega)
    rw [Array.getElem?_eq_none (by omega)] at this
    have h3 : w2.heap.size < w1.heap.size := by omega
    rw [Array.getElem?_eq_getElem h3] at this
    cases this
theorem OvAt.of_rd {w : World} {S : Nat → Prop} {g : Nat} {r : Rd} {vw vh vb vt : Value} {T : Nat → Prop} (h : RdAt w S g r vw vh vb vt T) (hx : r.nx = .over) : OvAt w S g vt T r.told :=
  ⟨⟨_, h.cells, by simp [cellsRd, hx, Nx.val], by simp [cellsRd]⟩, h.own, h.told, h.st⟩
set_option maxRecDepth 100000 in
set_option maxHeartbeats 400000 in
theorem stop0_cells {w : World} {g : Nat} {a0 a1 a2 a3 a4 a5 a6 a7 a8 a9 a10 a11 a12 a13 : Value} (h : w.heap[g]? = some (.cells (cs14 a0 a1 a2 a3 a4 a5 a6 a7 a8 a9 a10 a11 a12 a13) 56 (0, 0))) :
    Calls Tryz.prog 104 #[.pointer (some ⟨g, 0, none⟩), .int .i64 0] w fun e w' => e = .returned (.bool false) ∧
      Chg g 56 w w' (cs14 (.slice none 0 0) (.int .i64 0) .nilFunc a3 a4 a5 a6 a7 a8 a9 a10 a11 a12 a13) := by
  have k0 := cell_of_heap h 0 a0 rfl
  have k1 := cell_of_heap h 1 a1 rfl
  have k2 := cell_of_heap h 2 a2 rfl
  have f0 := frozen_of_heap h 0
  have f1 := frozen_of_heap h 1
  have f2 := frozen_of_heap h 2
  have H := Aside0.mk h
  clear h
  go_enter Tryz.func104, Tryz.ntmps104
  go_wp2
  go_ret
  refine ⟨rfl, ?_⟩
  apply Chg.cast
  · repeat (first | (with_reducible apply Chg.put) | exact Chg.start H.out)
  · simp [cs14]

set_option maxRecDepth 100000 in
set_option maxHeartbeats 1000000 in
theorem done_keep {w : World} {S : Nat → Prop} {g : Nat} {r : Rd} {vw vh vb vt : Value} {T : Nat → Prop} (h : RdAt w S g r vw vh vb vt T) (hU : ∀ k, w.heap.size ≤ k → S k) (hl : r.told.length < 1000000000000) (hk : r.q.f4 = true) :
    Calls Tryz.prog 138 #[.pointer (some ⟨g, 0, none⟩)] w fun e w' => e = .returned (.bool true) ∧ Frame S w w' ∧ ∃ vt1 T1, RdAt w' S g { r.begun with told := r.told ++ [⟨r.whole, 0⟩] } vw (.slice none 0 0) (.slice none 0 0) vt1 T1 := by
  obtain ⟨Ab, cb, rfl⟩ := own_slice h.body
  obtain ⟨Ah, ch, rfl⟩ := R_slice h.heads
  obtain ⟨At, ct, rfl⟩ := R_slice h.told
  have cv := own_string (P := Tryz.prog) (e' := 5) (dst := 9) Tryz.underlying40 Tryz.underlying5 Tryz.underlying9 h.body
  have k3 := cell_of_heap h.cells 3 (.string r.q.f0) rfl
  have k4 := cell_of_heap h.cells 4 (.string r.q.f1) rfl
  have k5 := cell_of_heap h.cells 5 (.slice Ah r.q.f2.length ch) rfl
  have k6 := cell_of_heap h.cells 6 (.string r.q.f3) rfl
  have k7 := cell_of_heap h.cells 7 (.bool r.q.f4) rfl
  have k11 := cell_of_heap h.cells 11 (.slice Ab r.body.length cb) rfl
  have k13 := cell_of_heap h.cells 13 (.slice At r.told.length ct) rfl
  have f3 := frozen_of_heap h.cells 3
  have f4 := frozen_of_heap h.cells 4
  have f5 := frozen_of_heap h.cells 5
  have f6 := frozen_of_heap h.cells 6
  have f7 := frozen_of_heap h.cells 7
  have f13 := frozen_of_heap h.cells 13
  rw [strOfNums_ints] at cv
  have H := Aside0.mk h
  have HU := Aside0.mk hU
  have HK := Aside0.mk hk
  clear h hU hk
  go_enter Tryz.func138, Tryz.ntmps138
  go_wp2_with fail
  have hc := (Chg.start H.out.cells).put 6 (.string (str r.body))
  have hR0 : k53.R 53 (w.setCell ⟨g, 6, none⟩ (.string (str r.body))) 0 T (.slice At r.told.length ct) r.told :=
    Kd.R_mono (Kd.R_move (Kd.R_bound H.out.told) fun k hk => hc.same k (fun e => by
      obtain ⟨_, _, _, q, hq, c, hh⟩ := hk
      rw [e, H.out.cells] at hh; injection hh with hh; injection hh with _ ht
      have hE : k53.E = [38] := rfl
      rw [hE, ← ht] at hq; exact absurd hq (by decide)) hk.2.2.1) (fun _ hk => hk.1)
  have hH0 : k38.R 38 (w.setCell ⟨g, 6, none⟩ (.string (str r.body))) 0 (fun k => (Value.slice Ah r.q.f2.length ch).ownBlock = some k) (.slice Ah r.q.f2.length ch) r.q.f2 :=
    Kd.R_mono (Kd.R_move (Kd.R_bound H.out.heads) fun k hk => hc.same k (fun e => by
      obtain ⟨_, _, _, q, hq, c, hh⟩ := hk
      rw [e, H.out.cells] at hh; injection hh with hh; injection hh with _ ht
      have hE : k38.E = [] := rfl
      rw [hE, ← ht] at hq; exact absurd hq (by decide)) hk.2.2.1) (fun _ hk => hk.1)
  have hsz : (w.setCell ⟨g, 6, none⟩ (.string (str r.body))).heap.size = w.heap.size := by simp
  revert hc hR0 hH0 hsz
  generalize w.setCell ⟨g, 6, none⟩ (.string (str r.body)) = W1
  intro hc hR0 hH0 hsz
  replace k3 := cell_of_heap hc.heap 3 (.string r.q.f0) rfl
  replace k4 := cell_of_heap hc.heap 4 (.string r.q.f1) rfl
  replace k5 := cell_of_heap hc.heap 5 (.slice Ah r.q.f2.length ch) rfl
  replace k6 := cell_of_heap hc.heap 6 (.string (str r.body)) rfl
  replace k7 := cell_of_heap hc.heap 7 (.bool r.q.f4) rfl
  replace k13 := cell_of_heap hc.heap 13 (.slice At r.told.length ct) rfl
  replace f13 := frozen_of_heap hc.heap 13
  clear f3 f4 f5 f6 f7 k11 cv
  have hM : k53.M W1 0 (fun k => (Value.slice Ah r.q.f2.length ch).ownBlock = some k) ⟨r.whole, 0⟩ [.string r.q.f0, .string r.q.f1, .slice Ah r.q.f2.length ch, .string (str r.body), .bool r.q.f4, .int .i64 0] := k53_mkM _ _ _ ⟨r.whole, 0⟩ hH0
  have hokp : ∀ k, (Value.slice Ah r.q.f2.length ch).ownBlock = some k → (T k ∨ (Value.slice Ah r.q.f2.length ch).ownBlock = some k ∨ w.heap.size ≤ k) ∧ some k ≠ (Value.slice At r.told.length ct).ownBlock := by
    intro k hk
    refine ⟨.inr (.inl hk), fun e => ?_⟩
    obtain ⟨c, h1⟩ := R_typed H.out.told k e.symm
    obtain ⟨c', h2⟩ := R_typed H.out.heads k hk
    exact typed_ne h1 h2 (by decide) rfl
  have Z := Aside0.mk (And.intro hc (And.intro hR0 (And.intro hM (And.intro hokp hsz))))
  clear hc hR0 hH0 hM hokp
  have hlt : g < w.heap.size := H.out.lt
  go_region_law (refine Kd.R_append_step k53 (w0 := W1) 0 rfl (.tmp 16) (.tmp 22) 44 53 _ 88 rfl Tryz.underlying44 info53 rfl (by decide) (by decide) (.slice At r.told.length ct) r.told ⟨r.whole, 0⟩ [.string r.q.f0, .string r.q.f1, .slice Ah r.q.f2.length ch, .string (str r.body), .bool r.q.f4, .int .i64 0] (fun k => T k ∨ (Value.slice Ah r.q.f2.length ch).ownBlock = some k ∨ w.heap.size ≤ k) (fun k => (Value.slice Ah r.q.f2.length ch).ownBlock = some k) (by simp [Act.eval, Act.put]) (by simp [Act.eval, Act.put]) (Kd.M_below Z.out.2.2.1 (below_drew (Below.refl _ _))) Z.out.2.2.2.1 (fun k hk => Or.inr (Or.inr (by simp at hk; omega))) (Kd.R_mono (Kd.R_below Z.out.2.1 (below_drew (Below.refl _ _))) (fun _ hk => Or.inl hk)) (below_drew (Below.refl _ _)) (Nat.zero_le _) (by omega) ?_; intro v1 w1 hR hB hg hat; obtain ⟨A1, c1, hv⟩ := R_slice hR; (rw [show (r.told ++ [(⟨r.whole, 0⟩ : S53)]).length = r.told.length + 1 from by simp] at hv); subst hv; have hgw := grown_told (W := W1.drew) Z.out.1.heap (Kd.R_below Z.out.2.1 (below_drew (Below.refl _ _))) hg; have q13 := cell_of_heap hgw 13 (.slice At r.told.length ct) rfl; have p13 := frozen_of_heap hgw 13; have Y := Aside0.mk (And.intro hR (And.intro hg hgw)); clear hR hB hg hat hgw)
  all_goals
    have hc2 := ((Chg.start Y.out.2.2).put 13 (.slice A1 (r.told.length + 1) c1)).cast (cs' := cs14 vw (.int .i64 r.used) (r.nx.val g) (.string r.q.f0) (.string r.q.f1) (.slice Ah r.q.f2.length ch) (.string (str r.body)) (.bool true) (.int .i64 r.head) (.int .i64 r.lines) (.bool r.old) (.slice Ab r.body.length cb) (.int .i64 r.size) (.slice A1 (r.told.length + 1) c1)) (by simp [cellsRd, cs14, HK.out])
    have q7 := cell_of_heap hc2.heap 7 (.bool true) rfl
    clear k3 k4 k5 k6 k7 k13 f13 q13 p13
    revert hc2 q7
    generalize w1.setCell ⟨g, 13, none⟩ (.slice A1 (r.told.length + 1) c1) = W2
    intro hc2 q7
    have X := Aside0.mk hc2
    clear hc2
    go_wp2_with fail
    refine (begin_cells X.out.heap).mono ?_
    rintro e w3 ⟨rfl, hc3⟩
    have V := Aside0.mk hc3
    clear hc3
    go_wp2
    go_ret
    refine ⟨rfl, ?_⟩
    obtain ⟨hR, hg, hgw⟩ := Y.out
    have hsame : ∀ k, k ≠ g → k < w1.heap.size → w3.heap[k]? = w1.heap[k]? := fun k hk hl => (V.out.same k hk (Nat.lt_of_lt_of_le hl X.out.frame.size)).trans (X.out.same k hk hl)
    have hrow : ∀ (k : Nat) (c : Array Value) (t : TypeId), t ≠ 56 → t ≠ 53 → w.heap[k]? = some (.cells c t (0, 0)) → w1.heap[k]? = w.heap[k]? := by
      intro k c t h56 h53 hk
      have h1 := Z.out.1.same k (typed_ne hk H.out.cells h56) (Array.getElem?_eq_some_iff.1 hk).1
      refine (hg.block k (by show k < W1.heap.size; have := (Array.getElem?_eq_some_iff.1 hk).1; omega) (fun e => ?_)).trans h1
      obtain ⟨c', h'⟩ := R_typed H.out.told k e.symm
      exact typed_ne h' hk (Ne.symm h53) rfl
    refine ⟨?_, .slice A1 (r.told.length + 1) c1, (fun k => (T k ∨ (Value.slice Ah r.q.f2.length ch).ownBlock = some k ∨ w.heap.size ≤ k) ∧ k < w1.heap.size), ?_⟩
    · refine ((((Frame.of_below (S := S) (Below.refl _ w)).trans (Z.out.1.frame.mono (fun k _ hk => hk ▸ H.out.own))).trans ((Frame.refl S W1).drew.trans (Frame.of_grown hg (fun k e => (H.out.st k (H.out.told.1 k e)).1)))).trans (X.out.frame.mono (fun k _ hk => hk ▸ H.out.own))).trans (V.out.frame.mono (fun k _ hk => hk ▸ H.out.own))
    · refine RdAt.make (r := { r.begun with told := r.told ++ [⟨r.whole, 0⟩] }) (S := S) (T := fun k => T k ∨ (Value.slice Ah r.q.f2.length ch).ownBlock = some k ∨ w.heap.size ≤ k) hgw hsame (Nat.le_trans X.out.frame.size V.out.frame.size) V.out.heap H.out.own (H.out.wait.move (fun k c _ hk => hrow k c 5 (by decide) (by decide) hk)) (own5_nil _ _ rfl) (U := fun _ => True) (Kd.R_nil _ _ _ _ _) hR ?_ (fun k hk => by simp [Value.ownBlock] at hk) (fun k hk => by simp [Value.ownBlock] at hk) ?_
      · intro k hk
        have hl := (H.out.sw k hk).2.1
        have h2 := hg.size
        have h3 : W1.heap.size ≤ w1.heap.size := h2
        exact ⟨(H.out.sw k hk).1, by omega, by simp [Value.ownBlock]⟩
      · intro k hk _
        rcases hk with hk | hk | hk
        · exact (H.out.st k hk).1
        · exact (H.out.sh k hk).1
        · exact HU.out k hk
set_option maxRecDepth 100000 in
set_option maxHeartbeats 1000000 in
theorem done_over {w : World} {S : Nat → Prop} {g : Nat} {r : Rd} {vw vh vb vt : Value} {T : Nat → Prop} (h : RdAt w S g r vw vh vb vt T) (hU : ∀ k, w.heap.size ≤ k → S k) (hl : r.told.length < 1000000000000) (hk : r.q.f4 = false) :
    Calls Tryz.prog 138 #[.pointer (some ⟨g, 0, none⟩)] w fun e w' => e = .returned (.bool false) ∧ Frame S w w' ∧ ∃ vt1 T1, OvAt w' S g vt1 T1 (r.told ++ [⟨r.whole, 0⟩]) := by
  obtain ⟨Ab, cb, rfl⟩ := own_slice h.body
  obtain ⟨Ah, ch, rfl⟩ := R_slice h.heads
  obtain ⟨At, ct, rfl⟩ := R_slice h.told
  have cv := own_string (P := Tryz.prog) (e' := 5) (dst := 9) Tryz.underlying40 Tryz.underlying5 Tryz.underlying9 h.body
  have k3 := cell_of_heap h.cells 3 (.string r.q.f0) rfl
  have k4 := cell_of_heap h.cells 4 (.string r.q.f1) rfl
  have k5 := cell_of_heap h.cells 5 (.slice Ah r.q.f2.length ch) rfl
  have k6 := cell_of_heap h.cells 6 (.string r.q.f3) rfl
  have k7 := cell_of_heap h.cells 7 (.bool r.q.f4) rfl
  have k11 := cell_of_heap h.cells 11 (.slice Ab r.body.length cb) rfl
  have k13 := cell_of_heap h.cells 13 (.slice At r.told.length ct) rfl
  have f3 := frozen_of_heap h.cells 3
  have f4 := frozen_of_heap h.cells 4
  have f5 := frozen_of_heap h.cells 5
  have f6 := frozen_of_heap h.cells 6
  have f7 := frozen_of_heap h.cells 7
  have f13 := frozen_of_heap h.cells 13
  rw [strOfNums_ints] at cv
  have H := Aside0.mk h
  have HU := Aside0.mk hU
  have HK := Aside0.mk hk
  clear h hU hk
  go_enter Tryz.func138, Tryz.ntmps138
  go_wp2_with fail
  have hc := (Chg.start H.out.cells).put 6 (.string (str r.body))
  have hR0 : k53.R 53 (w.setCell ⟨g, 6, none⟩ (.string (str r.body))) 0 T (.slice At r.told.length ct) r.told :=
    Kd.R_mono (Kd.R_move (Kd.R_bound H.out.told) fun k hk => hc.same k (fun e => by
      obtain ⟨_, _, _, q, hq, c, hh⟩ := hk
      rw [e, H.out.cells] at hh; injection hh with hh; injection hh with _ ht
      have hE : k53.E = [38] := rfl
      rw [hE, ← ht] at hq; exact absurd hq (by decide)) hk.2.2.1) (fun _ hk => hk.1)
  have hH0 : k38.R 38 (w.setCell ⟨g, 6, none⟩ (.string (str r.body))) 0 (fun k => (Value.slice Ah r.q.f2.length ch).ownBlock = some k) (.slice Ah r.q.f2.length ch) r.q.f2 :=
    Kd.R_mono (Kd.R_move (Kd.R_bound H.out.heads) fun k hk => hc.same k (fun e => by
      obtain ⟨_, _, _, q, hq, c, hh⟩ := hk
      rw [e, H.out.cells] at hh; injection hh with hh; injection hh with _ ht
      have hE : k38.E = [] := rfl
      rw [hE, ← ht] at hq; exact absurd hq (by decide)) hk.2.2.1) (fun _ hk => hk.1)
  have hsz : (w.setCell ⟨g, 6, none⟩ (.string (str r.body))).heap.size = w.heap.size := by simp
  revert hc hR0 hH0 hsz
  generalize w.setCell ⟨g, 6, none⟩ (.string (str r.body)) = W1
  intro hc hR0 hH0 hsz
  replace k3 := cell_of_heap hc.heap 3 (.string r.q.f0) rfl
  replace k4 := cell_of_heap hc.heap 4 (.string r.q.f1) rfl
  replace k5 := cell_of_heap hc.heap 5 (.slice Ah r.q.f2.length ch) rfl
  replace k6 := cell_of_heap hc.heap 6 (.string (str r.body)) rfl
  replace k7 := cell_of_heap hc.heap 7 (.bool r.q.f4) rfl
  replace k13 := cell_of_heap hc.heap 13 (.slice At r.told.length ct) rfl
  replace f13 := frozen_of_heap hc.heap 13
  clear f3 f4 f5 f6 f7 k11 cv
  have hM : k53.M W1 0 (fun k => (Value.slice Ah r.q.f2.length ch).ownBlock = some k) ⟨r.whole, 0⟩ [.string r.q.f0, .string r.q.f1, .slice Ah r.q.f2.length ch, .string (str r.body), .bool r.q.f4, .int .i64 0] := k53_mkM _ _ _ ⟨r.whole, 0⟩ hH0
  have hokp : ∀ k, (Value.slice Ah r.q.f2.length ch).ownBlock = some k → (T k ∨ (Value.slice Ah r.q.f2.length ch).ownBlock = some k ∨ w.heap.size ≤ k) ∧ some k ≠ (Value.slice At r.told.length ct).ownBlock := by
    intro k hk
    refine ⟨.inr (.inl hk), fun e => ?_⟩
    obtain ⟨c, h1⟩ := R_typed H.out.told k e.symm
    obtain ⟨c', h2⟩ := R_typed H.out.heads k hk
    exact typed_ne h1 h2 (by decide) rfl
  have Z := Aside0.mk (And.intro hc (And.intro hR0 (And.intro hM (And.intro hokp hsz))))
  clear hc hR0 hH0 hM hokp
  have hlt : g < w.heap.size := H.out.lt
  go_region_law (refine Kd.R_append_step k53 (w0 := W1) 0 rfl (.tmp 16) (.tmp 22) 44 53 _ 88 rfl Tryz.underlying44 info53 rfl (by decide) (by decide) (.slice At r.told.length ct) r.told ⟨r.whole, 0⟩ [.string r.q.f0, .string r.q.f1, .slice Ah r.q.f2.length ch, .string (str r.body), .bool r.q.f4, .int .i64 0] (fun k => T k ∨ (Value.slice Ah r.q.f2.length ch).ownBlock = some k ∨ w.heap.size ≤ k) (fun k => (Value.slice Ah r.q.f2.length ch).ownBlock = some k) (by simp [Act.eval, Act.put]) (by simp [Act.eval, Act.put]) (Kd.M_below Z.out.2.2.1 (below_drew (Below.refl _ _))) Z.out.2.2.2.1 (fun k hk => Or.inr (Or.inr (by simp at hk; omega))) (Kd.R_mono (Kd.R_below Z.out.2.1 (below_drew (Below.refl _ _))) (fun _ hk => Or.inl hk)) (below_drew (Below.refl _ _)) (Nat.zero_le _) (by omega) ?_; intro v1 w1 hR hB hg hat; obtain ⟨A1, c1, hv⟩ := R_slice hR; (rw [show (r.told ++ [(⟨r.whole, 0⟩ : S53)]).length = r.told.length + 1 from by simp] at hv); subst hv; have hgw := grown_told (W := W1.drew) Z.out.1.heap (Kd.R_below Z.out.2.1 (below_drew (Below.refl _ _))) hg; have q13 := cell_of_heap hgw 13 (.slice At r.told.length ct) rfl; have p13 := frozen_of_heap hgw 13; have Y := Aside0.mk (And.intro hR (And.intro hg hgw)); clear hR hB hg hat hgw)
  all_goals
    have hc2 := ((Chg.start Y.out.2.2).put 13 (.slice A1 (r.told.length + 1) c1)).cast (cs' := cs14 vw (.int .i64 r.used) (r.nx.val g) (.string r.q.f0) (.string r.q.f1) (.slice Ah r.q.f2.length ch) (.string (str r.body)) (.bool false) (.int .i64 r.head) (.int .i64 r.lines) (.bool r.old) (.slice Ab r.body.length cb) (.int .i64 r.size) (.slice A1 (r.told.length + 1) c1)) (by simp [cellsRd, cs14, HK.out])
    have q7 := cell_of_heap hc2.heap 7 (.bool false) rfl
    clear k3 k4 k5 k6 k7 k13 f13 q13 p13
    revert hc2 q7
    generalize w1.setCell ⟨g, 13, none⟩ (.slice A1 (r.told.length + 1) c1) = W2
    intro hc2 q7
    have X := Aside0.mk hc2
    clear hc2
    go_wp2_with fail
    refine (stop0_cells X.out.heap).mono ?_
    rintro e w3 ⟨rfl, hc3⟩
    have V := Aside0.mk hc3
    clear hc3
    go_wp2
    go_ret
    refine ⟨rfl, ?_⟩
    obtain ⟨hR, hg, hgw⟩ := Y.out
    have hsame : ∀ k, k ≠ g → k < w1.heap.size → w3.heap[k]? = w1.heap[k]? := fun k hk hl => (V.out.same k hk (Nat.lt_of_lt_of_le hl X.out.frame.size)).trans (X.out.same k hk hl)
    have hrow : ∀ (k : Nat) (c : Array Value) (t : TypeId), t ≠ 56 → t ≠ 53 → w.heap[k]? = some (.cells c t (0, 0)) → w1.heap[k]? = w.heap[k]? := by
      intro k c t h56 h53 hk
      have h1 := Z.out.1.same k (typed_ne hk H.out.cells h56) (Array.getElem?_eq_some_iff.1 hk).1
      refine (hg.block k (by show k < W1.heap.size; have := (Array.getElem?_eq_some_iff.1 hk).1; omega) (fun e => ?_)).trans h1
      obtain ⟨c', h'⟩ := R_typed H.out.told k e.symm
      exact typed_ne h' hk (Ne.symm h53) rfl
    refine ⟨?_, .slice A1 (r.told.length + 1) c1, (fun k => (T k ∨ (Value.slice Ah r.q.f2.length ch).ownBlock = some k ∨ w.heap.size ≤ k) ∧ k < w1.heap.size), ?_⟩
    · refine ((((Frame.of_below (S := S) (Below.refl _ w)).trans (Z.out.1.frame.mono (fun k _ hk => hk ▸ H.out.own))).trans ((Frame.refl S W1).drew.trans (Frame.of_grown hg (fun k e => (H.out.st k (H.out.told.1 k e)).1)))).trans (X.out.frame.mono (fun k _ hk => hk ▸ H.out.own))).trans (V.out.frame.mono (fun k _ hk => hk ▸ H.out.own))
    · refine OvAt.make hgw hsame V.out.heap rfl rfl H.out.own hR ?_
      intro k hk _
      rcases hk with hk | hk | hk
      · exact (H.out.st k hk).1
      · exact (H.out.sh k hk).1
      · exact HU.out k hk
end Go.Proofs.YtafhkpnmolfjeaaGreatDoor.Rq
