/- visible: all bytes of a text stand between two. -/
import Derived.Test.YtafhkpnmolfjeaaGreatDoorRq0
import Derived.Outline
set_option linter.unusedVariables false
set_option linter.unusedSimpArgs false
namespace Go.Proofs.YtafhkpnmolfjeaaGreatDoor.Rq
open Go.RowKit Go.Proofs.YtafhkpnmolfjeaaGreatDoorW.PrintWords Go.Proofs.YtafhkpnmolfjeaaGreatDoor.PRequestBack

def outB (fr hi : Nat) (x : Nat) : Bool := decide (x < fr) || decide (hi < x)
def visB (fr hi : Nat) (s : ByteArray) : Bool := s.data.toList.all fun b => !outB fr hi b.toNat
theorem decode_low (s : ByteArray) (i : Nat) (h : (s.get! i).toNat < 128) : Utf8.decode s i = ((s.get! i).toNat, 1) := by
  simp only [Utf8.decode, Nat.add_zero]
  rw [if_pos h]
theorem decode_high (s : ByteArray) (i : Nat) (h : ¬ (s.get! i).toNat < 128) : 128 ≤ (Utf8.decode s i).1 := by
  have hr : 128 ≤ Utf8.runeError := by decide
  simp only [Utf8.decode, Nat.add_zero]
  rw [if_neg h]
  split
  · split
    · assumption
    · exact hr
  · split
    · split
      · rename_i hc; simp only [Bool.and_eq_true, decide_eq_true_eq] at hc; show 128 ≤ _; omega
      · exact hr
    · split
      · split
        · rename_i hc; simp only [Bool.and_eq_true, decide_eq_true_eq] at hc; show 128 ≤ _; omega
        · exact hr
      · exact hr
theorem get_bang (s : ByteArray) (i : Nat) (h : i < s.data.toList.length) : s.get! i = s.data.toList[i] := by
  have h' : i < s.data.size := by simpa using h
  simp only [ByteArray.get!, Array.getElem_toList]
  exact getElem!_pos s.data i h'
theorem idx_vis (fr hi : Nat) (ht : hi < 128) (s : ByteArray) : ∀ (f pos : Nat), s.size ≤ pos + f → (Lib.idxFuncFrom (outB fr hi) true s f pos < 0 ↔ ((s.data.toList.drop pos).all fun b => !outB fr hi b.toNat) = true)
  | 0, pos, h => by
    have : s.data.toList.drop pos = [] := List.drop_eq_nil_of_le (by rw [data_length]; omega)
    simp [Lib.idxFuncFrom, this]
  | f + 1, pos, h => by
    unfold Lib.idxFuncFrom
    by_cases hp : pos < s.size
    · have hl : pos < s.data.toList.length := by rw [data_length]; exact hp
      rw [if_pos hp, List.drop_eq_getElem_cons hl, List.all_cons]
      have hg := get_bang s pos hl
      by_cases hb : (s.get! pos).toNat < 128
      · rw [decode_low s pos hb]
        simp only [hg]
        by_cases ho : outB fr hi (s.data.toList[pos]).toNat = true
        · rw [if_pos ho]
          simp only [ho, Bool.not_true, Bool.false_and]
          constructor
          · intro h; omega
          · intro h; cases h
        · rw [if_neg ho]
          have ho' : outB fr hi (s.data.toList[pos]).toNat = false := by simpa using ho
          rw [idx_vis fr hi ht s f (pos + 1) (by omega)]
          simp only [ho', Bool.not_false, Bool.true_and]
      · have hd := decode_high s pos hb
        have ho : outB fr hi (Utf8.decode s pos).1 = true := by simp only [outB, Bool.or_eq_true, decide_eq_true_eq]; right; omega
        have ho' : outB fr hi (s.data.toList[pos]).toNat = true := by
          rw [hg] at hb
          simp only [outB, Bool.or_eq_true, decide_eq_true_eq]; right; omega
        rw [if_pos ho]
        simp only [ho', Bool.not_true, Bool.false_and]
        constructor
        · intro h; omega
        · intro h; cases h
    · rw [if_neg hp]
      have : s.data.toList.drop pos = [] := List.drop_eq_nil_of_le (by rw [data_length]; omega)
      simp [this]
theorem vis_eq (fr hi : Nat) (ht : hi < 128) (s : ByteArray) : (!decide (0 ≤ Lib.idxFunc (outB fr hi) true s)) = visB fr hi s := by
  have h := idx_vis fr hi ht s s.size 0 (by omega)
  rw [List.drop_zero] at h
  unfold visB Lib.idxFunc
  rw [Bool.eq_iff_iff]
  rw [← h]
  simp

set_option maxRecDepth 100000 in
set_option maxHeartbeats 400000 in
theorem visible1_calls (fr hi x : Nat) (hf : fr < 128) (ht : hi < 128) (hx : x ≤ 1114111) (b1 b2 : Nat) (w : World) (h1 : w.cell? ⟨b1, 0, none⟩ = some (.int .u8 fr)) (h2 : w.cell? ⟨b2, 0, none⟩ = some (.int .u8 hi)) :
    Calls Tryz.prog 166 #[.int .i32 x, .pointer (some ⟨b1, 0, none⟩), .pointer (some ⟨b2, 0, none⟩)] w fun e w' => e = .returned (.bool (outB fr hi x)) ∧ w = w' := by
  by_cases ha : x < fr
  · have ha' : decide ((x : Int) < fr) = true := by simp; omega
    go_enter Tryz.func166, Tryz.ntmps166
    go_wp2
    go_ret
    exact ⟨by simp [outB, ha], rfl⟩
  · have ha' : decide ((x : Int) < fr) = false := by simp; omega
    go_enter Tryz.func166, Tryz.ntmps166
    go_wp2
    go_ret
    exact ⟨by simp [outB, ha], rfl⟩

theorem enters166 : ∀ args w, (callFunc 166 args).run Tryz.prog w = .ok (.enter 166 args) w := enters_of Tryz.func166 (by kernel_rfl) rfl
set_option maxRecDepth 100000 in
set_option maxHeartbeats 400000 in
theorem visible_calls (a b : Int) (fr hi : Nat) (ea : a = fr) (eb : b = hi) (hf : fr < 128) (ht : hi < 128) (s : ByteArray) (w : World) :
    Calls Tryz.prog 132 #[.string s, .int .u8 a, .int .u8 b] w fun e w' => e = .returned (.bool (visB fr hi s)) ∧ Below w.heap.size w w' := by
  subst ea eb
  have hv := Aside0.mk (vis_eq fr hi ht s)
  go_enter Tryz.func132, Tryz.ntmps132
  go_wp2_with fail
  refine (Tryz.strings_ContainsFunc_grows 166 _ enters166 (outB fr hi) s _ ?_).mono ?_
  · intro W x hx hb
    have h0 := new_cell w #[.int .u8 fr] 5 (0, 0) 0
    have h1 := new_cell (w.alloc (.cells #[.int .u8 fr] 5)) #[.int .u8 hi] 5 (0, 0) 0
    have h0' := pw_cell_below ((Below.refl (w.alloc (.cells #[.int .u8 fr] 5)).heap.size (w.alloc (.cells #[.int .u8 fr] 5))).alloc (Nat.le_refl _) (.cells #[.int .u8 hi] 5)) h0
    have e1 := pw_cell_below hb h0'
    have e2 := pw_cell_below hb h1
    rw [World.size_alloc] at e2
    refine (visible1_calls fr hi x hf ht hx w.heap.size (w.heap.size + 1) W e1 e2).mono ?_
    rintro e w' ⟨rfl, rfl⟩
    exact ⟨rfl, Below.refl _ _⟩
  · rintro e w1 ⟨rfl, hb⟩
    have HB := Aside0.mk (((Below.refl w.heap.size w).alloc (Nat.le_refl _) (.cells #[.int .u8 fr] 5)).alloc (by simp) (.cells #[.int .u8 hi] 5) |>.trans (hb.mono (by simp; omega)))
    clear hb
    go_wp2
    go_ret
    exact ⟨by rw [← hv.out]; rfl, HB.out⟩
end Go.Proofs.YtafhkpnmolfjeaaGreatDoor.Rq
