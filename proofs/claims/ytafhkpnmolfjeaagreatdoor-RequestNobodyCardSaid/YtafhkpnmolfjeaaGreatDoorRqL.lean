/- Walks of the reader's Left, and of Feed where the reader is over. -/
import Derived.Test.YtafhkpnmolfjeaaGreatDoorRqZ
set_option linter.unusedVariables false
set_option linter.unusedSimpArgs false
namespace Go.Proofs.YtafhkpnmolfjeaaGreatDoor.Rq
open Go.RowKit Go.Proofs.YtafhkpnmolfjeaaGreatDoorW.PrintWords Go.Proofs.YtafhkpnmolfjeaaGreatDoor.PRequestBack

set_option maxRecDepth 100000 in
set_option maxHeartbeats 400000 in
theorem left_over {w : World} {g : Nat} (hc : w.cell? ⟨g, 2, none⟩ = some .nilFunc) :
    Calls Tryz.prog 25 #[.pointer (some ⟨g, 0, none⟩)] w fun e w' => e = .returned (.int .i64 0) ∧ w' = w := by
  go_enter Tryz.func25, Tryz.ntmps25
  go_wp2_with fail
  refine (over_calls .over hc).mono ?_
  rintro e w1 ⟨rfl, rfl⟩
  have : Nx.over.isOver = true := rfl
  rw [this]
  go_wp2_with fail
  go_ret
  exact ⟨rfl, rfl⟩
set_option maxRecDepth 100000 in
set_option maxHeartbeats 400000 in
theorem left_nilptr (w : World) :
    Calls Tryz.prog 25 #[.pointer none] w fun e w' => e = .returned (.int .i64 0) ∧ w' = w := by
  go_enter Tryz.func25, Tryz.ntmps25
  go_wp2_with fail
  refine (over_nilptr _).mono ?_
  rintro e w1 ⟨rfl, rfl⟩
  go_wp2_with fail
  go_ret
  exact ⟨rfl, rfl⟩
set_option maxRecDepth 100000 in
set_option maxHeartbeats 400000 in
theorem feed_nilptr {w : World} {A : Option Addr} {n c : Nat} :
    Calls Tryz.prog 23 #[.pointer none, .slice A n c] w fun e w' => e = .returned (.slice none 0 0) ∧ w' = w := by
  go_enter Tryz.func23, Tryz.ntmps23
  go_wp2_with fail
  refine (over_nilptr _).mono ?_
  rintro e w1 ⟨rfl, rfl⟩
  go_wp2_with fail
  go_ret
  exact ⟨rfl, rfl⟩
set_option maxRecDepth 100000 in
set_option maxHeartbeats 400000 in
theorem feed_over {w : World} {g : Nat} {A : Option Addr} {n c : Nat} (hc : w.cell? ⟨g, 2, none⟩ = some .nilFunc) :
    Calls Tryz.prog 23 #[.pointer (some ⟨g, 0, none⟩), .slice A n c] w fun e w' => e = .returned (.slice none 0 0) ∧ w' = w := by
  go_enter Tryz.func23, Tryz.ntmps23
  go_wp2_with fail
  refine (over_calls .over hc).mono ?_
  rintro e w1 ⟨rfl, rfl⟩
  have : Nx.over.isOver = true := rfl
  rw [this]
  go_wp2_with fail
  go_ret
  exact ⟨rfl, rfl⟩
set_option maxRecDepth 100000 in
set_option maxHeartbeats 400000 in
theorem left_calls {w : World} {S : Nat → Prop} {g : Nat} {r : Rd} (h : FedAt w S g r) (hx : r.nx ≠ .over) (h0 : 0 ≤ r.used) (h1 : r.used + r.wait.length ≤ 1000000000000000) :
    Calls Tryz.prog 25 #[.pointer (some ⟨g, 0, none⟩)] w fun e w' => e = .returned (.int .i64 (r.used + r.wait.length)) ∧ Below w.heap.size w w' := by
  obtain ⟨ht, vw, vh, vb, h⟩ := h
  obtain ⟨Aw, cw, rfl, _⟩ := h.wait.sl
  have k0 := cell_of_heap h.cells 0 (.slice Aw r.wait.length cw) rfl
  have k1 := cell_of_heap h.cells 1 (.int .i64 r.used) rfl
  have k2 := cell_of_heap h.cells 2 (r.nx.val g) rfl
  clear h
  go_enter Tryz.func25, Tryz.ntmps25
  go_wp2_with fail
  refine (over_calls r.nx k2).mono ?_
  rintro e w1 ⟨rfl, rfl⟩
  have hov : r.nx.isOver = false := by cases hq : r.nx <;> first | exact absurd hq hx | rfl
  rw [hov]
  go_wp2_with fail
  go_quiet (fail)
  go_wp2_with fail
  go_ret
  refine ⟨rfl, pw_below_drewN (Below.refl _ _) _⟩
end Go.Proofs.YtafhkpnmolfjeaaGreatDoor.Rq
