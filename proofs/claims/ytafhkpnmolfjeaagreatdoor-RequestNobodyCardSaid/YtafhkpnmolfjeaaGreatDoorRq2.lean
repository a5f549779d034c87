/- Walks of the reader's methods that write the list of what was told. -/
import Derived.Test.YtafhkpnmolfjeaaGreatDoorRq1
set_option linter.unusedVariables false
set_option linter.unusedSimpArgs false
namespace Go.Proofs.YtafhkpnmolfjeaaGreatDoor.Rq
open Go.RowKit Go.Proofs.YtafhkpnmolfjeaaGreatDoorW.PrintWords Go.Proofs.YtafhkpnmolfjeaaGreatDoor.PRequestBack

theorem R_slice {α : Type} {d : Kd α} {e : Nat} {w : World} {base : Nat} {ok : Nat → Prop} {v : Value} {xs : List α} (h : d.R e w base ok v xs) : ∃ A c, v = .slice A xs.length c := by
  obtain ⟨_, inner, ho, _⟩ := h
  exact own_slice ho
/-- What gives up leaves. -/
def Rd.over (r : Rd) (l : List S53) : Rd := { r with wait := [], used := 0, nx := .over, told := r.told ++ l }

set_option maxRecDepth 100000 in
set_option maxHeartbeats 400000 in
theorem stop_zero {w : World} {S : Nat → Prop} {g : Nat} {r : Rd} {vw vh vb vt : Value} {T : Nat → Prop} (h : RdAt w S g r vw vh vb vt T) :
    Calls Tryz.prog 104 #[.pointer (some ⟨g, 0, none⟩), .int .i64 0] w fun e w' => e = .returned (.bool false) ∧ Frame (fun k => k = g) w w' ∧ RdAt w' S g (r.over []) (.slice none 0 0) vh vb vt T := by
  obtain ⟨Aw, cw, rfl, hw0⟩ := h.wait.sl
  have k0 := cell_of_heap h.cells 0 (.slice Aw r.wait.length cw) rfl
  have k1 := cell_of_heap h.cells 1 (.int .i64 r.used) rfl
  have k2 := cell_of_heap h.cells 2 (r.nx.val g) rfl
  have f0 := frozen_of_heap h.cells 0
  have f1 := frozen_of_heap h.cells 1
  have f2 := frozen_of_heap h.cells 2
  have H := Aside0.mk h
  clear h hw0
  go_enter Tryz.func104, Tryz.ntmps104
  go_wp2
  go_ret
  refine ⟨rfl, (((Frame.refl _ _).put 0 _).put 1 _).put 2 _, ?_⟩
  refine H.out.turn ?_ (by simp) (fun k hk _ => by rw [Below.heap_setCell _ _ _ _ hk, Below.heap_setCell _ _ _ _ hk, Below.heap_setCell _ _ _ _ hk]) (Cut5.nil _) (fun k hk => by simp [Value.ownBlock] at hk) rfl rfl (by simp [Rd.over])
  rw [heap_set (heap_set (heap_set H.out.cells 0 _) 1 _) 2 _]
  simp [cellsRd, Rd.over, Nx.val]

theorem info53 : (Tryz.prog.info? 53).map (fun i => (i.zero, i.size, i.bytes)) = some (some (.agg #[.string ⟨#[]⟩, .string ⟨#[]⟩, .slice none 0 0, .string ⟨#[]⟩, .bool false, .int .i64 0]), 6, 88) := by kernel_rfl
set_option maxRecDepth 100000 in
set_option maxHeartbeats 400000 in
theorem stop_some {w : World} {S : Nat → Prop} {g : Nat} {r : Rd} {vw vh vb vt : Value} {T : Nat → Prop} (h : RdAt w S g r vw vh vb vt T) (hU : ∀ k, w.heap.size ≤ k → S k) (st : Int) (hst : (st != 0) = true) (hl : r.told.length < 1000000000000) :
    Calls Tryz.prog 104 #[.pointer (some ⟨g, 0, none⟩), .int .i64 st] w fun e w' => e = .returned (.bool false) ∧ Frame S w w' ∧ ∃ vt1 T1, RdAt w' S g (r.over [⟨z24, st⟩]) (.slice none 0 0) vh vb vt1 T1 := by
  obtain ⟨Aw, cw, rfl, hw0⟩ := h.wait.sl
  obtain ⟨At, ct, rfl⟩ := R_slice h.told
  have k0 := cell_of_heap h.cells 0 (.slice Aw r.wait.length cw) rfl
  have k1 := cell_of_heap h.cells 1 (.int .i64 r.used) rfl
  have k2 := cell_of_heap h.cells 2 (r.nx.val g) rfl
  have k13 := cell_of_heap h.cells 13 (.slice At r.told.length ct) rfl
  have f0 := frozen_of_heap h.cells 0
  have f1 := frozen_of_heap h.cells 1
  have f2 := frozen_of_heap h.cells 2
  have f13 := frozen_of_heap h.cells 13
  have H := Aside0.mk h
  have HU := Aside0.mk hU
  clear h hw0 hU
  go_enter Tryz.func104, Tryz.ntmps104
  go_wp2_with (at_builtin; go_must (refine Kd.R_append k53 (w0 := w) 0 rfl (.tmp 11) (.tmp 14) 44 53 _ 88 rfl Tryz.underlying44 info53 rfl (by decide) (by decide) (.slice At r.told.length ct) r.told ⟨z24, st⟩ [.string ⟨#[]⟩, .string ⟨#[]⟩, .slice none 0 0, .string ⟨#[]⟩, .bool false, .int .i64 st] (fun k => T k ∨ w.heap.size ≤ k) (fun _ => False) rfl rfl (k53_mkM _ _ _ ⟨z24, st⟩ (Kd.R_nil _ _ _ _ _)) (fun _ h => h.elim) (fun k hk => Or.inr hk) ?c1 ?c2 (Nat.zero_le _) ?c3 ?_))
  case c1 => exact Kd.R_mono H.out.told (fun _ hk => .inl hk)
  case c2 => exact Below.refl 0 w
  case c3 => omega
  intro v1 w1 hR hB hg hat
  have hgw : w1.heap[g]? = some (.cells (cellsRd g r (.slice Aw r.wait.length cw) vh vb (.slice At r.told.length ct)) 56 (0, 0)) := by
    refine (hg.block g H.out.lt (fun e => ?_)).trans H.out.cells
    obtain ⟨c, hc⟩ := R_typed H.out.told g e.symm
    exact typed_ne hc H.out.cells (by decide) rfl
  obtain ⟨A1, c1, hv1⟩ := R_slice hR
  rw [show (r.told ++ [(⟨z24, st⟩ : S53)]).length = r.told.length + 1 from by simp] at hv1
  subst hv1
  replace k0 := cell_of_heap hgw 0 (.slice Aw r.wait.length cw) rfl
  replace k1 := cell_of_heap hgw 1 (.int .i64 r.used) rfl
  replace k2 := cell_of_heap hgw 2 (r.nx.val g) rfl
  replace k13 := cell_of_heap hgw 13 (.slice At r.told.length ct) rfl
  replace f0 := frozen_of_heap hgw 0
  replace f1 := frozen_of_heap hgw 1
  replace f2 := frozen_of_heap hgw 2
  replace f13 := frozen_of_heap hgw 13
  have Z := Aside0.mk (And.intro hR (And.intro hg hgw))
  clear hR hB hg hgw hat
  go_wp2
  go_ret
  obtain ⟨hR, hg, hgw⟩ := Z.out
  have hfr : Frame S w w1 := Frame.of_grown hg (fun k e => by
    obtain ⟨h0, _⟩ := H.out.told
    exact (H.out.st k (h0 k e)).1)
  refine ⟨rfl, (((hfr.putIn H.out.own 13 _).putIn H.out.own 0 _).putIn H.out.own 1 _).putIn H.out.own 2 _, .slice A1 (r.told.length + 1) c1, (fun k => (T k ∨ w.heap.size ≤ k) ∧ k < w1.heap.size), ?_⟩
  refine RdAt.make (r := r.over [⟨z24, st⟩]) (T := fun k => T k ∨ w.heap.size ≤ k) hgw (same_put (same_put (same_put (same_put (same_refl g w1) 13 _) 0 _) 1 _) 2 _) (by simp) ?_ H.out.own (Cut5.nil _) (own_other H.out.body hg ?_) (U := fun k => vh.ownBlock = some k) (Kd.R_grown H.out.heads hg ?_) hR (fun k hk => by simp [Value.ownBlock] at hk) H.out.sb ?_ ?_
  · rw [heap_set (heap_set (heap_set (heap_set hgw 13 _) 0 _) 1 _) 2 _]
    simp [cellsRd, Rd.over, Nx.val]
  · obtain ⟨_, inner, ho, _⟩ := H.out.told
    exact own_type_ne H.out.body ho (by decide)
  · intro k hk e
    obtain ⟨c, hc⟩ := R_typed H.out.told k e.symm
    obtain ⟨c', hc'⟩ := R_typed H.out.heads k hk
    exact typed_ne hc hc' (by decide) rfl
  · intro k hk _
    exact ⟨(H.out.sh k hk).1, fun hc => hc.elim (H.out.sh k hk).2 (fun hle => by have := R_lt H.out.heads k hk; omega)⟩
  · intro k hk _
    exact hk.elim (fun h => (H.out.st k h).1) (HU.out k)
end Go.Proofs.YtafhkpnmolfjeaaGreatDoor.Rq
