/- Walk of RequestNobody. -/
import Derived.Test.YtafhkpnmolfjeaaGreatDoorRqJ
set_option linter.unusedVariables false
set_option linter.unusedSimpArgs false
namespace Go.Proofs.YtafhkpnmolfjeaaGreatDoor.Rq
open Go.RowKit Go.Proofs.YtafhkpnmolfjeaaGreatDoorW.PrintWords Go.Proofs.YtafhkpnmolfjeaaGreatDoor.PRequestBack

set_option maxRecDepth 100000 in
set_option maxHeartbeats 1600000 in
theorem nobody_calls {w : World} (hG : Glob w) (h9 : 9 ≤ w.heap.size) (A : Option Addr) (n c : Nat) :
    Calls Tryz.prog 8 #[.slice A n c] w fun e w' => e = .returned (.bool true) ∧ Below w.heap.size w w' := by
  have HG := Aside0.mk hG
  clear hG
  go_enter Tryz.func8, Tryz.ntmps8
  go_wp2_with fail
  have hW : ∀ (o1 o2 : Obj), Below w.heap.size w ((w.alloc o1).alloc o2) := fun o1 o2 => ((Below.refl w.heap.size w).alloc (Nat.le_refl _) o1).alloc (by simp) o2
  have hZ : ∀ (o1 : Obj) (C : Array Value) (t : TypeId) (i : Nat), ((w.alloc o1).alloc (.cells C t)).cell? ⟨w.heap.size + 1, i, none⟩ = C[i]? := fun o1 C t i => by
    have h := new_cell (w.alloc o1) C t (0, 0) i
    have hs : (w.alloc o1).heap.size = w.heap.size + 1 := by simp
    rw [hs] at h
    exact h
  have hY : ∀ (C : Array Value) (t : TypeId) (o : Obj) (i : Nat), ((w.alloc (.cells C t)).alloc o).cell? ⟨w.heap.size, i, none⟩ = C[i]? := fun C t o i => by
    rw [← new_cell w C t (0, 0) i]
    exact World.cell?_of_block (((Below.refl (w.alloc (.cells C t)).heap.size (w.alloc (.cells C t))).alloc (Nat.le_refl _) o).block w.heap.size (by simp))
  have m0 := fun o1 p => hZ o1 #[.pointer none, p] 41 0
  have m1 := fun o1 p => hZ o1 #[.pointer none, p] 41 1
  have m2 := fun o => hY #[.slice none 0 0, .int .i64 0, .nilFunc, .string ⟨#[]⟩, .string ⟨#[]⟩, .slice none 0 0, .string ⟨#[]⟩, .bool false, .int .i64 0, .int .i64 0, .bool false, .slice none 0 0, .int .i64 0, .slice none 0 0] 56 o 2
  simp only [List.getElem?_toArray, List.getElem?_cons_zero, List.getElem?_cons_succ] at m0 m1 m2
  have hB := hW (.cells #[.slice none 0 0, .int .i64 0, .nilFunc, .string ⟨#[]⟩, .string ⟨#[]⟩, .slice none 0 0, .string ⟨#[]⟩, .bool false, .int .i64 0, .int .i64 0, .bool false, .slice none 0 0, .int .i64 0, .slice none 0 0] 56) (.cells #[.pointer none, .pointer (some ⟨w.heap.size, 0, none⟩)] 41)
  have m0 := m0 (.cells #[.slice none 0 0, .int .i64 0, .nilFunc, .string ⟨#[]⟩, .string ⟨#[]⟩, .slice none 0 0, .string ⟨#[]⟩, .bool false, .int .i64 0, .int .i64 0, .bool false, .slice none 0 0, .int .i64 0, .slice none 0 0] 56) (.pointer (some ⟨w.heap.size, 0, none⟩))
  have m1 := m1 (.cells #[.slice none 0 0, .int .i64 0, .nilFunc, .string ⟨#[]⟩, .string ⟨#[]⟩, .slice none 0 0, .string ⟨#[]⟩, .bool false, .int .i64 0, .int .i64 0, .bool false, .slice none 0 0, .int .i64 0, .slice none 0 0] 56) (.pointer (some ⟨w.heap.size, 0, none⟩))
  have m2 := m2 (.cells #[.pointer none, .pointer (some ⟨w.heap.size, 0, none⟩)] 41)
  revert hB m0 m1 m2
  generalize (w.alloc (.cells #[.slice none 0 0, .int .i64 0, .nilFunc, .string ⟨#[]⟩, .string ⟨#[]⟩, .slice none 0 0, .string ⟨#[]⟩, .bool false, .int .i64 0, .int .i64 0, .bool false, .slice none 0 0, .int .i64 0, .slice none 0 0] 56)).alloc (.cells #[.pointer none, .pointer (some ⟨w.heap.size, 0, none⟩)] 41) = W1
  intro hB m0 m1 m2
  clear hW hZ hY
  have HB := Aside0.mk hB
  have m0 := m0
  have M0 := Aside0.mk (m0.trans rfl : W1.cell? ⟨w.heap.size + 1, 0, none⟩ = some (.pointer none))
  have M1 := Aside0.mk (m1.trans rfl : W1.cell? ⟨w.heap.size + 1, 1, none⟩ = some (.pointer (some ⟨w.heap.size, 0, none⟩)))
  have M2 := Aside0.mk (m2.trans rfl : W1.cell? ⟨w.heap.size, 2, none⟩ = some .nilFunc)
  clear m0 m1 m2 hB
  go_loopw [9] (fun i wr => wr = W1 ∧ ∃ k : Nat, k ≤ 2 ∧ i = .int .i64 k) (fun i _ => 2 - (intOf i).toNat)
  case atStart => exact ⟨rfl, 0, by omega, rfl⟩
  case round =>
    obtain ⟨rfl, k, hk, rfl⟩ := hrel
    by_cases h0 : k = 0
    · subst h0
      have m0 := M0.out
      go_wp2_with fail
      refine (feed_nilptr).mono ?_
      rintro e w2 ⟨rfl, rfl⟩
      go_wp2_with fail
      refine (left_nilptr _).mono ?_
      rintro e w2 ⟨rfl, rfl⟩
      go_wp2_with fail
      refine (over_nilptr _).mono ?_
      rintro e w2 ⟨rfl, rfl⟩
      go_wp2_with fail
      go_roundw
      case rel => exact ⟨trivial, 1, by omega, by go_num⟩
      case measure => simp [intOf]
    · by_cases h1 : k = 1
      · subst h1
        have m1 := M1.out
        go_wp2_with fail
        refine (feed_over M2.out).mono ?_
        rintro e w2 ⟨rfl, rfl⟩
        go_wp2_with fail
        refine (left_over M2.out).mono ?_
        rintro e w2 ⟨rfl, rfl⟩
        go_wp2_with fail
        refine (over_calls .over M2.out).mono ?_
        rintro e w2 ⟨rfl, rfl⟩
        go_wp2_with fail
        go_roundw
        case rel => exact ⟨trivial, 2, by omega, by go_num⟩
        case measure => simp [intOf]
      · obtain rfl : k = 2 := by omega
        go_wp2_with fail
        refine (lives_calls (HG.out.below HB.out) (Nat.le_trans h9 HB.out.size)).mono ?_
        rintro e w3 ⟨rfl, hB3⟩
        have HB3 := Aside0.mk (below_step HB.out hB3)
        clear hB3
        go_wp2_with fail
        go_ret
        exact ⟨rfl, HB3.out⟩
end Go.Proofs.YtafhkpnmolfjeaaGreatDoor.Rq
