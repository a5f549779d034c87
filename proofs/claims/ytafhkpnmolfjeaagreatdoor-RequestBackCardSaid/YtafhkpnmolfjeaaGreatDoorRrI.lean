/- Walk of request.Print: the text; the printed same. -/
import Derived.Test.YtafhkpnmolfjeaaGreatDoorRrH
set_option linter.unusedVariables false
set_option linter.unusedSimpArgs false
namespace Go.Proofs.YtafhkpnmolfjeaaGreatDoor.Rq
open Go.RowKit Go.Proofs.YtafhkpnmolfjeaaGreatDoorW.PrintWords Go.Proofs.YtafhkpnmolfjeaaGreatDoor.PRequestBack

theorem ba_ext {a b : ByteArray} (h : a.toList = b.toList) : a = b := by
  rw [ByteArray.toList_eq, ByteArray.toList_eq] at h
  cases a with
  | mk a => cases b with
    | mk b => exact congrArg ByteArray.mk (Array.toList_inj.1 h)
/-! ### The printed same -/
theorem pair_l0 (l m : List S38) (hl : l.length ≤ 9223372036854775807) (hm : l.length = m.length) : ∀ (d i k : Nat), i + d = l.length → d < k → ∃ r, api_Pair.l0 k l m (l.length : Int) (i : Int) = some r ∧ (r = true ↔ l.drop i = m.drop i)
  | _, _, 0, _, h => absurd h (by omega)
  | 0, i, k + 1, h, _ => by
    simp only [api_Pair.l0]
    rw [if_neg (by omega)]
    refine ⟨true, rfl, ?_⟩
    rw [List.drop_eq_nil_of_le (by omega), List.drop_eq_nil_of_le (by omega)]
    simp
  | d + 1, i, k + 1, h, hk => by
    have hi : i < l.length := by omega
    have hi' : i < m.length := by omega
    have hr : rd_T38 l (i : Int) = l[i] := by simp [rd_T38, List.getElem?_eq_getElem hi]
    have hr' : rd_T38 m (i : Int) = m[i] := by simp [rd_T38, List.getElem?_eq_getElem hi']
    simp only [api_Pair.l0]
    rw [if_pos (by omega), if_pos (by omega), if_pos (by omega), if_pos (by omega), hr, hr']
    have hw : wrap64 ((i : Int) + 1) = ((i + 1 : Nat) : Int) := by unfold wrap64; omega
    obtain ⟨r, h1, h2⟩ := pair_l0 l m hl hm d (i + 1) k (by omega) (by omega)
    rw [List.drop_eq_getElem_cons hi, List.drop_eq_getElem_cons hi']
    by_cases he : l[i].f0.toList = m[i].f0.toList ∧ l[i].f1.toList = m[i].f1.toList
    · rw [if_neg (by simp [he.1, he.2]), hw]
      refine ⟨r, h1, h2.trans ?_⟩
      have e : l[i] = m[i] := by
        have a := ba_ext he.1
        have b := ba_ext he.2
        revert a b
        cases l[i]; cases m[i]
        intro a b
        simp only at a b
        rw [a, b]
      rw [e]
      exact ⟨fun h => by rw [h], fun h => by injection h⟩
    · rw [if_pos (by
        simp only [Bool.or_eq_true, Bool.not_eq_true', beq_eq_false_iff_ne]
        by_cases h0 : l[i].f0.toList = m[i].f0.toList
        · exact .inr (fun h1 => he ⟨h0, h1⟩)
        · exact .inl h0)]
      refine ⟨false, rfl, ?_⟩
      simp only [Bool.false_eq_true, List.cons.injEq, false_iff, not_and]
      intro e
      exact absurd ⟨by rw [e], by rw [e]⟩ he
theorem pair_f (l m : List S38) (hl : l.length ≤ 9223372036854775807) : ∃ k r, (∀ j, k ≤ j → api_Pair.f j l m = some r) ∧ (r = true ↔ l = m) := by
  by_cases h : l.length = m.length
  · obtain ⟨r, h1, h2⟩ := pair_l0 l m hl h l.length 0 (l.length + 1) (by omega) (by omega)
    refine ⟨l.length + 1, r, fun j hj => ?_, by simpa using h2⟩
    obtain ⟨r', h1', h2'⟩ := pair_l0 l m hl h l.length 0 j (by omega) (by omega)
    have : r' = r := by
      cases r <;> cases r' <;> simp_all
    unfold api_Pair.f
    rw [if_pos (by omega), ← this]
    exact h1'
  · refine ⟨0, false, fun j _ => ?_, ?_⟩
    · unfold api_Pair.f
      rw [if_neg (by omega)]
    · simp only [Bool.false_eq_true, false_iff]
      intro e; exact h (by rw [e])
theorem same_f (a b : S24) (hl : a.f2.length ≤ 9223372036854775807) : ∃ k r, request_same.f k a.f0 a.f1 a.f2 a.f3 a.f4 b.f0 b.f1 b.f2 b.f3 b.f4 = some r ∧ (r = true ↔ a = b) := by
  obtain ⟨k, r, h1, h2⟩ := pair_f a.f2 b.f2 hl
  refine ⟨k, if a.f0.toList = b.f0.toList ∧ a.f1.toList = b.f1.toList ∧ a.f3.toList = b.f3.toList ∧ a.f4 = b.f4 then r else false, ?_, ?_⟩
  · unfold request_same.f
    rw [h1 k (Nat.le_refl _)]
    by_cases c0 : a.f0.toList = b.f0.toList
    · rw [if_pos c0]
      by_cases c1 : a.f1.toList = b.f1.toList
      · rw [if_pos c1]
        by_cases c3 : a.f3.toList = b.f3.toList
        · rw [if_pos c3]
          by_cases c4 : a.f4 = b.f4
          · rw [if_pos (by simp [c4]), if_pos ⟨c0, c1, c3, c4⟩]; rfl
          · rw [if_neg (by simp [c4]), if_neg (fun h => c4 h.2.2.2)]
        · rw [if_neg c3, if_neg (fun h => c3 h.2.2.1)]
      · rw [if_neg c1, if_neg (fun h => c1 h.2.1)]
    · rw [if_neg c0, if_neg (fun h => c0 h.1)]
  · by_cases c : a.f0.toList = b.f0.toList ∧ a.f1.toList = b.f1.toList ∧ a.f3.toList = b.f3.toList ∧ a.f4 = b.f4
    · rw [if_pos c, h2]
      obtain ⟨c0, c1, c3, c4⟩ := c
      have e0 := ba_ext c0
      have e1 := ba_ext c1
      have e3 := ba_ext c3
      constructor
      · intro e2
        cases a; cases b
        simp_all
      · intro e; rw [e]
    · rw [if_neg c]
      simp only [Bool.false_eq_true, false_iff]
      intro e
      exact c (by rw [e]; exact ⟨rfl, rfl, rfl, rfl⟩)
theorem same_calls {w : World} (a b : S24) {A0 A1 : Option Addr} {c0 c1 : Nat} (h0 : k38.C w A0 a.f2.length a.f2) (hc0 : a.f2.length ≤ c0) (h1 : k38.C w A1 b.f2.length b.f2) (hc1 : b.f2.length ≤ c1) :
    Calls Tryz.prog 48 #[.agg #[.string a.f0, .string a.f1, .slice A0 a.f2.length c0, .string a.f3, .bool a.f4], .agg #[.string b.f0, .string b.f1, .slice A1 b.f2.length c1, .string b.f3, .bool b.f4]] w fun e w' => (∃ r, e = .returned (.bool r) ∧ (r = true ↔ a = b)) ∧ Below w.heap.size w w' := by
  obtain ⟨k, r, h2, h3⟩ := same_f a b h0.2.1
  refine (request_same.calls k a.f0 a.f1 A0 c0 a.f2 a.f3 a.f4 b.f0 b.f1 A1 c1 b.f2 b.f3 b.f4 r w h0 hc0 h1 hc1 h2).mono ?_
  rintro e w' ⟨rfl, hB⟩
  exact ⟨⟨r, rfl, h3⟩, hB⟩
/-! ### The text of a request -/
def bl (s : ByteArray) : List UInt8 := s.data.toList
def hdrT (p : S38) : List UInt8 := bl p.f0 ++ ([58, 32] ++ (bl p.f1 ++ [13, 10]))
def headT (q : S24) : List UInt8 := bl q.f0 ++ ([32] ++ (bl q.f1 ++ [32, 72, 84, 84, 80, 47, 49, 46, 49, 13, 10]))
def textF (q : S24) : List UInt8 := headT q ++ (q.f2.flatMap hdrT ++ ([13, 10] ++ bl q.f3))
def hwt : List S38 → Nat
  | [] => 0
  | p :: l => 20 + p.f0.size + p.f1.size + hwt l
/-- How much a request is. -/
def wt (q : S24) : Nat := q.f0.size + q.f1.size + q.f3.size + hwt q.f2
theorem bl_length (s : ByteArray) : (bl s).length = s.size := by unfold bl; rw [Array.length_toList]; rfl
theorem str_bl (s : ByteArray) : str (bl s) = s := by cases s; rfl
theorem bl_append (a b : ByteArray) : bl (a ++ b) = bl a ++ bl b := by unfold bl; rw [ByteArray.data_append, Array.toList_append]
theorem hdrs_le (l : List S38) : (l.flatMap hdrT).length ≤ hwt l := by
  induction l with
  | nil => exact Nat.le_refl _
  | cons p l ih =>
    simp only [List.flatMap_cons, List.length_append, hdrT, bl_length, hwt, List.length_cons, List.length_nil]
    omega
theorem textF_le (q : S24) : (textF q).length ≤ wt q + 14 := by
  have := hdrs_le q.f2
  unfold textF headT wt
  simp only [List.length_append, bl_length, List.length_cons, List.length_nil]
  omega
theorem writeS_calls {w : World} {base b : Nat} {xs : List UInt8} (h : SbAt w base b xs) (t : ByteArray) (hl : xs.length + t.size ≤ 1000000000) (hb : base ≤ w.heap.size) :
    Calls Tryz.prog 46 #[.pointer (some ⟨b, 0, none⟩), .string t] w fun e w' => e = .returned (.tuple #[.int .i64 t.size, .nilIface]) ∧ SbAt w' base b (xs ++ bl t) ∧ Below base w w' := by
  have := writeString_calls h (bl t) (by rw [bl_length]; exact hl) hb
  rw [str_bl, bl_length] at this
  exact this
/-- What is printed is read as it was. -/
def PrintsQ (q : S24) : Prop := (feedS (some Rd.new) (textF q)).1 = [⟨q, 0⟩] ∧ leftS (feedS (some Rd.new) (textF q)).2 = 0
end Go.Proofs.YtafhkpnmolfjeaaGreatDoor.Rq
