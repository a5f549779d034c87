/- Walks of the reader's begin, New, done; slices.Clone. -/
import Derived.Test.YtafhkpnmolfjeaaGreatDoorRq2
set_option linter.unusedVariables false
set_option linter.unusedSimpArgs false
namespace Go.Proofs.YtafhkpnmolfjeaaGreatDoor.Rq
open Go.RowKit Go.Proofs.YtafhkpnmolfjeaaGreatDoorW.PrintWords Go.Proofs.YtafhkpnmolfjeaaGreatDoor.PRequestBack

def Rd.begun (r : Rd) : Rd := { r with used := 0, nx := .head, q := z24, head := 0, lines := 0, old := false, body := [] }
def cs14 (a0 a1 a2 a3 a4 a5 a6 a7 a8 a9 a10 a11 a12 a13 : Value) : Array Value := #[a0, a1, a2, a3, a4, a5, a6, a7, a8, a9, a10, a11, a12, a13]

set_option maxRecDepth 100000 in
set_option maxHeartbeats 400000 in
/-- begin, on whatever reader's cells: the wait and told cells stay, the size too. -/
theorem begin_cells {w : World} {g : Nat} {a0 a1 a2 a3 a4 a5 a6 a7 a8 a9 a10 a11 a12 a13 : Value} (h : w.heap[g]? = some (.cells (cs14 a0 a1 a2 a3 a4 a5 a6 a7 a8 a9 a10 a11 a12 a13) 56 (0, 0))) :
    Calls Tryz.prog 43 #[.pointer (some ⟨g, 0, none⟩)] w fun e w' => e = .returned (.tuple #[]) ∧
      Chg g 56 w w' (cs14 a0 (.int .i64 0) (Nx.head.val g) (.string ⟨#[]⟩) (.string ⟨#[]⟩) (.slice none 0 0) (.string ⟨#[]⟩) (.bool false) (.int .i64 0) (.int .i64 0) (.bool false) (.slice none 0 0) a12 a13) := by
  have k1 := cell_of_heap h 1 a1 rfl
  have k2 := cell_of_heap h 2 a2 rfl
  have k3 := cell_of_heap h 3 a3 rfl
  have k4 := cell_of_heap h 4 a4 rfl
  have k5 := cell_of_heap h 5 a5 rfl
  have k6 := cell_of_heap h 6 a6 rfl
  have k7 := cell_of_heap h 7 a7 rfl
  have k8 := cell_of_heap h 8 a8 rfl
  have k9 := cell_of_heap h 9 a9 rfl
  have k10 := cell_of_heap h 10 a10 rfl
  have k11 := cell_of_heap h 11 a11 rfl
  have f1 := frozen_of_heap h 1
  have f2 := frozen_of_heap h 2
  have f3 := frozen_of_heap h 3
  have f4 := frozen_of_heap h 4
  have f5 := frozen_of_heap h 5
  have f6 := frozen_of_heap h 6
  have f7 := frozen_of_heap h 7
  have f8 := frozen_of_heap h 8
  have f9 := frozen_of_heap h 9
  have f10 := frozen_of_heap h 10
  have f11 := frozen_of_heap h 11
  have H := Aside0.mk h
  clear h
  go_enter Tryz.func43, Tryz.ntmps43
  go_wp2
  go_end0
  refine ⟨rfl, ?_⟩
  apply Chg.cast
  · repeat (first | (with_reducible apply Chg.put) | exact Chg.start H.out)
  · simp [cs14, Nx.val]

def Rd.new : Rd := { wait := [], used := 0, nx := .head, q := z24, head := 0, lines := 0, old := false, body := [], size := 0, told := [] }
theorem own5_nil (w : World) (l : List UInt8) (h : l = []) : w.ownsRow 0 5 1 (.slice none 0 0) l.length (nums .u8 (ints l)) := by
  subst h; exact own_nil w 0 5 1
theorem begin_calls {w : World} {S : Nat → Prop} {g : Nat} {r : Rd} {vw vh vb vt : Value} {T : Nat → Prop} (h : RdAt w S g r vw vh vb vt T) :
    Calls Tryz.prog 43 #[.pointer (some ⟨g, 0, none⟩)] w fun e w' => e = .returned (.tuple #[]) ∧ Frame (fun k => k = g) w w' ∧ RdAt w' S g r.begun vw (.slice none 0 0) (.slice none 0 0) vt (fun k => T k ∧ k < w.heap.size) := by
  refine (begin_cells h.cells).mono ?_
  rintro e w' ⟨rfl, hc⟩
  refine ⟨rfl, hc.frame, ?_⟩
  exact RdAt.make h.cells hc.same hc.frame.size hc.heap h.own h.wait (own5_nil w _ rfl) (U := fun _ => True) (Kd.R_nil _ _ _ _ _) h.told (fun k hk => ⟨(h.sw k hk).1, (h.sw k hk).2.1, by simp [Value.ownBlock]⟩) (fun k hk => by simp [Value.ownBlock] at hk) (fun k hk => by simp [Value.ownBlock] at hk) (fun k hk _ => (h.st k hk).1)

set_option maxRecDepth 100000 in
set_option maxHeartbeats 400000 in
theorem new_calls {w : World} {S : Nat → Prop} (hU : ∀ k, w.heap.size ≤ k → S k) :
    Calls Tryz.prog 21 #[] w fun e w' => e = .returned (.pointer (some ⟨w.heap.size, 0, none⟩)) ∧ Below w.heap.size w w' ∧ RdAt w' S w.heap.size Rd.new (.slice none 0 0) (.slice none 0 0) (.slice none 0 0) (.slice none 0 0) (fun _ => False) := by
  go_enter Tryz.func21, Tryz.ntmps21
  go_wp2_with fail
  have hb := heap_alloc_new w (.cells (cs14 (.slice none 0 0) (.int .i64 0) .nilFunc (.string ⟨#[]⟩) (.string ⟨#[]⟩) (.slice none 0 0) (.string ⟨#[]⟩) (.bool false) (.int .i64 0) (.int .i64 0) (.bool false) (.slice none 0 0) (.int .i64 0) (.slice none 0 0)) 56)
  refine (begin_cells hb).mono ?_
  rintro e w1 ⟨rfl, hc⟩
  have Z := Aside0.mk (And.intro hb hc)
  clear hb hc
  go_wp2
  go_ret
  obtain ⟨hb, hc⟩ := Z.out
  refine ⟨rfl, ((Below.refl w.heap.size w).alloc (Nat.le_refl _) _).trans ⟨hc.frame.os, hc.frame.tape, hc.frame.output, hc.frame.size, fun k hk => hc.same k (by omega) (by simp; omega)⟩, ?_⟩
  have hr := RdAt.make (r := Rd.new) (S := S) (T := fun _ => False) hb hc.same hc.frame.size hc.heap (hU _ (Nat.le_refl _)) (Cut5.nil _) (own5_nil _ _ rfl) (U := fun _ => True) (Kd.R_nil _ _ _ _ _) (Kd.R_nil _ _ _ _ _) (fun k hk => by simp [Value.ownBlock] at hk) (fun k hk => by simp [Value.ownBlock] at hk) (fun k hk => by simp [Value.ownBlock] at hk) (fun k hk _ => hk.elim)
  have he : (fun k => False ∧ k < (w.alloc (.cells (cs14 (.slice none 0 0) (.int .i64 0) .nilFunc (.string ⟨#[]⟩) (.string ⟨#[]⟩) (.slice none 0 0) (.string ⟨#[]⟩) (.bool false) (.int .i64 0) (.int .i64 0) (.bool false) (.slice none 0 0) (.int .i64 0) (.slice none 0 0)) 56)).heap.size) = (fun _ : Nat => False) := by funext k; simp
  rw [he] at hr
  exact hr
end Go.Proofs.YtafhkpnmolfjeaaGreatDoor.Rq
