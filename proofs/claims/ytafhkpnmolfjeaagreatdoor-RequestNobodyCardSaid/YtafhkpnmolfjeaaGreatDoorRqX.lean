/- Walks of slices.Clone, the reader's Over, Left. -/
import Derived.Test.YtafhkpnmolfjeaaGreatDoorRqR
import Derived.Test.YtafhkpnmolfjeaaGreatDoorRqC
set_option linter.unusedVariables false
set_option linter.unusedSimpArgs false
namespace Go.Proofs.YtafhkpnmolfjeaaGreatDoor.Rq
open Go.RowKit Go.Proofs.YtafhkpnmolfjeaaGreatDoorW.PrintWords Go.Proofs.YtafhkpnmolfjeaaGreatDoor.PRequestBack

theorem equalIn_func_nil (w : World) (f : Fn) (a b : Array Value) (t : TypeId) {x y z} (h : Tryz.prog.underlying t = some (.func x y z)) (d : Nat) : (Op.equalIn (d + 1) t (.func f a b) .nilFunc).run Tryz.prog w = .ok false w := by
  simp [Op.equalIn, run_underlying h]
theorem equalIn_nil_nilFunc (w : World) (t : TypeId) {x y z} (h : Tryz.prog.underlying t = some (.func x y z)) (d : Nat) : (Op.equalIn (d + 1) t .nilFunc .nilFunc).run Tryz.prog w = .ok true w := by
  simp [Op.equalIn, run_underlying h]
theorem run_eql_func_nil (w : World) (f : Fn) (a b : Array Value) (t : TypeId) {x y z} (h : Tryz.prog.underlying t = some (.func x y z)) : (binOp .eql t (.func f a b) .nilFunc).run Tryz.prog w = .ok (.bool false) w := by
  simp only [binOp]
  simp [Op.equal, Op.maxDepth, equalIn_func_nil w f a b t h 9999]
theorem run_eql_nil_nilFunc (w : World) (t : TypeId) {x y z} (h : Tryz.prog.underlying t = some (.func x y z)) : (binOp .eql t .nilFunc .nilFunc).run Tryz.prog w = .ok (.bool true) w := by
  simp only [binOp]
  simp [Op.equal, Op.maxDepth, equalIn_nil_nilFunc w t h 9999]
theorem run_neq_func_nil (w : World) (f : Fn) (a b : Array Value) (t : TypeId) {x y z} (h : Tryz.prog.underlying t = some (.func x y z)) : (binOp .neq t (.func f a b) .nilFunc).run Tryz.prog w = .ok (.bool true) w := by
  simp only [binOp]
  simp [Op.equal, Op.maxDepth, equalIn_func_nil w f a b t h 9999]
theorem run_neq_nil_nilFunc (w : World) (t : TypeId) {x y z} (h : Tryz.prog.underlying t = some (.func x y z)) : (binOp .neq t .nilFunc .nilFunc).run Tryz.prog w = .ok (.bool false) w := by
  simp only [binOp]
  simp [Op.equal, Op.maxDepth, equalIn_nil_nilFunc w t h 9999]

def Nx.isOver : Nx → Bool
  | .over => true
  | _ => false
set_option maxRecDepth 100000 in
set_option maxHeartbeats 400000 in
theorem over_calls {w : World} {g : Nat} (n : Nx) (hc : w.cell? ⟨g, 2, none⟩ = some (n.val g)) :
    Calls Tryz.prog 26 #[.pointer (some ⟨g, 0, none⟩)] w fun e w' => e = .returned (.bool n.isOver) ∧ w' = w := by
  have e1 := fun w => run_eql_nil_nilFunc w 26 Tryz.underlying26
  have e2 := fun w f a b => run_eql_func_nil w f a b 26 Tryz.underlying26
  cases n <;> simp only [Nx.val] at hc
  all_goals
    go_enter Tryz.func26, Tryz.ntmps26
    go_wp2
    go_ret
    exact ⟨rfl, rfl⟩
set_option maxRecDepth 100000 in
set_option maxHeartbeats 400000 in
theorem over_nilptr (w : World) :
    Calls Tryz.prog 26 #[.pointer none] w fun e w' => e = .returned (.bool true) ∧ w' = w := by
  go_enter Tryz.func26, Tryz.ntmps26
  go_wp2
  go_ret
  exact ⟨rfl, rfl⟩

set_option maxRecDepth 100000 in
set_option maxHeartbeats 400000 in
theorem clone_calls {w : World} {v : Value} {xs : List UInt8} (h : Cut5 w v xs) (hl : xs.length ≤ 1000000000000) :
    Calls Tryz.prog 44 #[v] w fun e w' => ∃ v', e = .returned v' ∧ (Kd.int .u8).R 5 w' w.heap.size (fun _ => True) v' (ints xs) ∧ Below w.heap.size w w' := by
  obtain ⟨A, c, rfl, hle, hm, hn, hsp⟩ := h.sl
  have e1 := fun w => Lib.run_eql_slice_nil (P := Tryz.prog) w 40 5 A xs.length c 0 0 Tryz.underlying40
  cases A with
  | none =>
    obtain rfl := hn rfl
    obtain rfl : xs = [] := List.eq_nil_of_length_eq_zero (by omega)
    clear h
    have e2 : ∀ w : World, (binOp .eql 40 (.slice none 0 0) (.slice none 0 0)).run Tryz.prog w = .ok (.bool true) w := fun w => Lib.run_eql_slice_nil (P := Tryz.prog) w 40 5 none 0 0 0 0 Tryz.underlying40
    clear e1
    show Calls Tryz.prog 44 #[.slice none 0 0] w _
    go_enter Tryz.func44, Tryz.ntmps44
    go_wp2_with fail
    go_ret
    exact ⟨_, rfl, Kd.R_nil _ _ _ _ _, Below.refl _ _⟩
  | some a =>
    have H := Aside0.mk h
    clear h
    go_enter Tryz.func44, Tryz.ntmps44
    go_wp2_with (at_builtin; go_must (refine Kd.R_append_rows (Kd.int .u8) (Rr := (Kd.int .u8).K (w.alloc (.cells #[] 5))) (w0 := w) w.heap.size rfl (.tmp 5) (.tmp 6) 40 5 (.int .u8 0) 1 rfl Tryz.underlying40 info5 rfl (by decide) (by decide) (.slice (some ⟨w.heap.size, 0, none⟩) 0 0) [] (ints xs) (some a) xs.length c (fun _ => True) (fun _ => False) (by simp [Act.eval, Act.put]) (by simp [Act.eval, Act.put]) ?c1 ?c2 (fun _ _ h => h) (fun _ h => h.elim) (fun k hk => trivial) ?c3 ?c4 ?c5 ?_))
    case c1 => exact Kd.R_of_own (xs := []) (own_lit w w.heap.size 5 .u8 [] (Nat.le_refl _) (by simp)) (fun _ _ => trivial)
    case c2 => exact (H.out.move (w1 := w.alloc (.cells #[] 5)) (fun k c _ hk => ((Below.refl w.heap.size w).alloc (Nat.le_refl _) _).block k (Array.getElem?_eq_some_iff.1 hk).1)).C
    case c3 => exact (Below.refl w.heap.size w).alloc (Nat.le_refl _) _
    case c4 => simp
    case c5 => simp; omega
    intro v1 w3 hR hB _ _
    go_wp2_with fail
    go_ret
    exact ⟨_, rfl, hR, hB⟩
end Go.Proofs.YtafhkpnmolfjeaaGreatDoor.Rq
