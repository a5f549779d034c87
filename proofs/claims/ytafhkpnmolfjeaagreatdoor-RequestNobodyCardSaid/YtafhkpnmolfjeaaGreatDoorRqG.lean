/- The frame of the Request laws: what the row's first world gives the walks; RequestNobody. -/
import Derived.Test.YtafhkpnmolfjeaaGreatDoorRqP
set_option linter.unusedVariables false
namespace Go.Proofs.YtafhkpnmolfjeaaGreatDoor.Rq
open Go.ChangeShapes Go.WideShapes Go.ChangeAt Go.RowKit

/-- What the row's first world gives the walks. -/
theorem glob_of {W : World} (hL : laidMetH Tryz.prog reqLaid W) (hs : W.ShapedOpen Tryz.prog) : Glob W ∧ 9 ≤ W.heap.size := by
  have hL' : laidMet Tryz.prog reqLaid W := hL
  obtain ⟨m, hm⟩ := cell_of_shapedOpen_int (k := .i64) (g := 1) (t := 3) (zero := #[.int .i64 0]) hs (of_decide_eq_true (by kernel_rfl)) (by kernel_rfl) rfl (by kernel_rfl) (by kernel_rfl) Tryz.underlying3
  obtain ⟨a0, t0, hv0, _⟩ := laid_sentinel (g := 6) hL'.tail.tail.tail.tail (by kernel_rfl) (by kernel_rfl) Tryz.underlying79 row256 Tryz.underlying256 Tryz.underlying258 rfl rfl Tryz.underlying9 (by kernel_rfl) (by kernel_rfl)
  obtain ⟨a1, t1, hv1, _⟩ := laid_sentinel (g := 5) hL'.tail.tail.tail.tail.tail (by kernel_rfl) (by kernel_rfl) Tryz.underlying79 row256 Tryz.underlying256 Tryz.underlying258 rfl rfl Tryz.underlying9 (by kernel_rfl) (by kernel_rfl)
  refine ⟨⟨⟨m, hm⟩, ⟨_, _, World.var?_cell (by kernel_rfl) hv1 0⟩, ⟨_, _, World.var?_cell (by kernel_rfl) hv0 0⟩⟩, ?_⟩
  obtain ⟨cs, hh, _⟩ := hs.1 8 (Array.replicate 64 (.int .u8 0)) 255 (of_decide_eq_true (by kernel_rfl)) (by kernel_rfl)
  exact (Array.getElem?_eq_some_iff.1 hh).1
end Go.Proofs.YtafhkpnmolfjeaaGreatDoor.Rq
