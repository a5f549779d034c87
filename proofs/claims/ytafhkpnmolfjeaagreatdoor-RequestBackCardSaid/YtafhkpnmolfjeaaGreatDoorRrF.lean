/- append onto a row of bytes that is the call's own, or a constant's. -/
import Derived.Test.YtafhkpnmolfjeaaGreatDoorMg
import Derived.Lib.AppendStr
import Derived.Lib.AppendZeros
import Derived.Lib.Builder
set_option linter.unusedVariables false
set_option linter.unusedSimpArgs false
namespace Go.Proofs.YtafhkpnmolfjeaaGreatDoor.Rq
open Go.RowKit Go.Proofs.YtafhkpnmolfjeaaGreatDoorW.PrintWords Go.Proofs.YtafhkpnmolfjeaaGreatDoor.PRequestBack

/-- Bytes that may be appended to: a row of the call's own, or one that is full (its block may be frozen). -/
def RowL (w : World) (base : Nat) (v : Value) (xs : List UInt8) : Prop :=
  w.ownsRow base 5 1 v xs.length (nums .u8 (ints xs)) ∨
  ∃ g C fr, v = .slice (some ⟨g, 0, none⟩) xs.length xs.length ∧ base ≤ g ∧ w.heap[g]? = some (.cells C 5 fr) ∧ ∀ (j : Nat) (x : UInt8), xs[j]? = some x → C[j]? = some (.int .u8 x.toNat)
theorem RowL.slice {w : World} {base : Nat} {v : Value} {xs : List UInt8} (h : RowL w base v xs) : ∃ A c, v = .slice A xs.length c := by
  rcases h with h | ⟨g, C, fr, rfl, _⟩
  · exact own_slice h
  · exact ⟨_, _, rfl⟩
theorem RowL.block {w : World} {base : Nat} {v : Value} {xs : List UInt8} (h : RowL w base v xs) (k : Nat) (hk : v.ownBlock = some k) : base ≤ k ∧ k < w.heap.size := by
  rcases h with h | ⟨g, C, fr, rfl, hg, hh, _⟩
  · exact ⟨own_base h k hk, own_lt h k hk⟩
  · simp only [Value.ownBlock, Option.some.injEq] at hk
    subst hk
    exact ⟨hg, (Array.getElem?_eq_some_iff.1 hh).1⟩
theorem RowL.move {w w1 : World} {base : Nat} {v : Value} {xs : List UInt8} (h : RowL w base v xs) (hm : ∀ k, v.ownBlock = some k → k < w.heap.size → w1.heap[k]? = w.heap[k]?) : RowL w1 base v xs := by
  rcases h with h | ⟨g, C, fr, rfl, hg, hh, hc⟩
  · exact .inl (own_move h fun k hk => hm k hk (own_lt h k hk))
  · exact .inr ⟨g, C, fr, rfl, hg, (hm g rfl (Array.getElem?_eq_some_iff.1 hh).1).trans hh, hc⟩
theorem nums_get {xs : List UInt8} {j : Nat} {u : Value} (h : (nums .u8 (ints xs))[j]? = some u) : ∃ x, xs[j]? = some x ∧ u = .int .u8 x.toNat := by
  simp only [nums, ints, List.getElem?_map, Option.map_eq_some_iff] at h
  obtain ⟨a, ⟨x, hx, rfl⟩, rfl⟩ := h
  exact ⟨x, hx, rfl⟩
theorem RowL.C {w : World} {base : Nat} {A : Option Addr} {c : Nat} {xs : List UInt8} (h : RowL w base (.slice A xs.length c) xs) (hl : xs.length ≤ 1000000000) : (Kd.int .u8).C w A xs.length (ints xs) ∧ xs.length ≤ c := by
  rcases h with h | ⟨g, C, fr, he, hg, hh, hc⟩
  · have hR := Kd.R_of_own (h1 := fun _ => rfl) (by rw [ints_length]; exact h) (fun _ _ => trivial) (ok := fun _ => True) (xs := ints xs) (enc := Value.int .u8)
    obtain ⟨A1, c1, he, hle, hC⟩ := Kd.R_reads hR
    injection he with e1 e2 e3
    subst e1 e3
    rw [ints_length] at hC hle
    exact ⟨hC, hle⟩
  · injection he with e1 e2 e3
    subst e1 e3
    refine ⟨⟨ints_length xs, by omega, fun h0 => ⟨_, rfl, fun j p hp => ⟨[.int .u8 p], rfl, rfl, fun i u hu => ?_⟩⟩⟩, Nat.le_refl _⟩
    cases i with
    | zero =>
      simp only [List.getElem?_cons_zero, Option.some.injEq] at hu
      subst hu
      have hsz : (Kd.int .u8).sz = 1 := rfl
      rw [hsz, Nat.mul_one, Nat.add_zero, add_at]
      simp only [ints, List.getElem?_map, Option.map_eq_some_iff] at hp
      obtain ⟨x, hx, rfl⟩ := hp
      simp [World.cell?, hh, hc j x hx]
    | succ i => simp at hu
theorem strCells_nums (s : List UInt8) : Lib.strCells (str s) = nums .u8 (ints s) := by
  simp [Lib.strCells, nums, ints, str, List.map_map]
/-- append(v, s...), s a text that is not empty. -/
theorem RowL.appendStr {w : World} {base : Nat} {v : Value} {xs : List UInt8} (h : RowL w base v xs) (s : List UInt8) (h0 : 0 < s.length) (hl : xs.length + s.length ≤ 1000000000) (hb : base ≤ w.heap.size) (ty : TypeId) :
    ∃ v' w', (Builtin.append_ #[40, 9] ty #[v, .string (str s)]).run Tryz.prog w = .ok v' w' ∧ RowL w' base v' (xs ++ s) ∧ w.grownBy w' v.ownBlock := by
  obtain ⟨i0, hi, hzz⟩ := Option.map_eq_some_iff.1 info5
  simp only [Prod.mk.injEq] at hzz
  obtain ⟨hz0, hz1, hz2⟩ := hzz
  have hml : maxLen = 9223372036854775807 := rfl
  rcases h with h | ⟨g, C, fr, rfl, hg, hh, hc⟩
  · obtain ⟨v', w', h1, h2, h3, _⟩ := Lib.run_append_own_string (P := Tryz.prog) w base 40 9 ty 5 i0 Tryz.underlying40 Tryz.underlying9 hi hz0 hz1 hz2 v xs.length (nums .u8 (ints xs)) h (str s) (by rw [str_size, hml]; omega) (by rw [str_size]; omega) hb
    refine ⟨v', w', h1, .inl ?_, h3⟩
    rw [str_size, strCells_nums, ← nums_append, ← ints_append] at h2
    rw [List.length_append]
    exact h2
  · have hr := Lib.run_append_grow_string (P := Tryz.prog) w 40 9 ty 5 i0 (.int .u8 0) Tryz.underlying40 Tryz.underlying9 hi hz0 ⟨g, 0, none⟩ xs.length xs.length (nums .u8 (ints xs)) (by rw [nums_length, ints_length, hz1, Nat.mul_one]) (fun j u hu => by
      obtain ⟨x, hx, rfl⟩ := nums_get hu
      rw [add_at]
      simp [World.cell?, hh, hc j x hx]) (str s) (by rw [str_size]; omega) (by rw [str_size]; omega) (by rw [hz2]; exact growslice_fits (by rw [str_size]; omega) (by rw [str_size]; omega))
    have hge := grownCap_ge w (xs.length + (str s).size) xs.length 5
    have hcm : grownCap w (xs.length + (str s).size) xs.length 5 ≤ maxLen := grownCap_le_maxLen w (xs.length + (str s).size) xs.length 5 (by rw [str_size, hml]; omega)
    refine ⟨_, _, hr, .inl ⟨by rw [nums_length, ints_length, Nat.mul_one], .inr ⟨w.heap.size, _, _, by rw [List.length_append, str_size], hb, heap_alloc_new w.drew _, by rw [List.length_append]; rw [str_size] at hge ⊢; exact hge, hcm, ?_, ?_⟩⟩, ⟨rfl, rfl, rfl, by simp, fun k hk _ => Lib.alloc_old w.drew _ k hk⟩⟩
    · have hz1' : (Value.int IntKind.u8 0).cells.size = 1 := rfl
      simp only [Array.size_append, List.size_toArray, size_zeroCells, hz1', nums_length, ints_length, Lib.strCells_length]
      rw [str_size] at hge ⊢
      omega
    · rw [strCells_nums, ints_append, nums_append]
      simp only [Array.toList_append, List.append_assoc]
      rw [← List.append_assoc, show (xs ++ s).length * 1 = (nums .u8 (ints xs) ++ nums .u8 (ints s)).length from by rw [List.length_append, List.length_append, nums_length, nums_length, ints_length, ints_length, Nat.mul_one]]
      exact List.take_left
/-- append(v, x...), x bytes that are read. -/
theorem RowL.appendBytes {w : World} {base : Nat} {v : Value} {xs : List UInt8} (h : RowL w base v xs) {A : Option Addr} {c : Nat} {s : List UInt8} (hs : (Kd.int .u8).C w A s.length (ints s)) (h0 : 0 < s.length) (hl : xs.length + s.length ≤ 1000000000) (hb : base ≤ w.heap.size) (ty : TypeId) :
    ∃ v' w', (Builtin.append_ #[40, 40] ty #[v, .slice A s.length c]).run Tryz.prog w = .ok v' w' ∧ RowL w' base v' (xs ++ s) ∧ w.grownBy w' v.ownBlock := by
  obtain ⟨i0, hi, hzz⟩ := Option.map_eq_some_iff.1 info5
  simp only [Prod.mk.injEq] at hzz
  obtain ⟨hz0, hz1, hz2⟩ := hzz
  have hml : maxLen = 9223372036854775807 := rfl
  obtain ⟨ad, rfl, hcell⟩ := (readsInt_of.2 (Kd.reads_of_C hs)).2.2 h0
  have hnews : ∀ j u, (nums .u8 (ints s))[j]? = some u → w.cell? (ad.add j) = some u := by
    intro j u hu
    obtain ⟨x, hx, rfl⟩ := nums_get hu
    have hj := (List.getElem?_eq_some_iff.1 hx).1
    rw [hcell j hj, getD_ints, List.getD_eq_getElem?_getD, hx]
    rfl
  have hone : ∀ u ∈ nums .u8 (ints s), u.oneCell' = true := by
    intro u hu
    simp only [nums, List.mem_map] at hu
    obtain ⟨x, _, rfl⟩ := hu
    rfl
  have hnl : (nums .u8 (ints s)).length = s.length * 1 := by rw [nums_length, ints_length, Nat.mul_one]
  rcases h with h | ⟨g, C, fr, rfl, hg, hh, hc⟩
  · obtain ⟨v', w', h1, h2, h3, _⟩ := run_append_own (P := Tryz.prog) w base 40 ty 5 i0 (.int .u8 0) 1 1 Tryz.underlying40 hi hz0 hz1 hz2 rfl (by decide) v xs.length (nums .u8 (ints xs)) h ad s.length c (nums .u8 (ints s)) hnl hnews hone (by rw [hml]; omega) (by omega) hb
    refine ⟨v', w', h1, .inl ?_, h3⟩
    rw [← nums_append, ← ints_append] at h2
    rw [List.length_append]
    exact h2
  · have hr := run_append_grow (P := Tryz.prog) w 40 ty 5 i0 (.int .u8 0) Tryz.underlying40 hi hz0 ⟨g, 0, none⟩ xs.length xs.length (nums .u8 (ints xs)) (by rw [nums_length, ints_length, hz1, Nat.mul_one]) (fun j u hu => by
      obtain ⟨x, hx, rfl⟩ := nums_get hu
      rw [add_at]
      simp [World.cell?, hh, hc j x hx]) ad s.length c (nums .u8 (ints s)) (by rw [hz1]; exact hnl) hnews (by omega) (by omega) (by rw [hz2]; exact growslice_fits (by omega) (by omega))
    have hge := grownCap_ge w (xs.length + s.length) xs.length 5
    have hcm : grownCap w (xs.length + s.length) xs.length 5 ≤ maxLen := grownCap_le_maxLen w (xs.length + s.length) xs.length 5 (by rw [hml]; omega)
    refine ⟨_, _, hr, .inl ⟨by rw [nums_length, ints_length, Nat.mul_one], .inr ⟨w.heap.size, _, _, by rw [List.length_append], hb, heap_alloc_new w.drew _, by rw [List.length_append]; exact hge, hcm, ?_, ?_⟩⟩, ⟨rfl, rfl, rfl, by simp, fun k hk _ => Lib.alloc_old w.drew _ k hk⟩⟩
    · have hz1' : (Value.int IntKind.u8 0).cells.size = 1 := rfl
      simp only [Array.size_append, List.size_toArray, size_zeroCells, hz1', nums_length, ints_length]
      omega
    · rw [ints_append, nums_append]
      simp only [Array.toList_append, List.append_assoc]
      rw [← List.append_assoc, show (xs ++ s).length * 1 = (nums .u8 (ints xs) ++ nums .u8 (ints s)).length from by rw [List.length_append, List.length_append, nums_length, nums_length, ints_length, ints_length, Nat.mul_one]]
      exact List.take_left
/-! ### at the operation -/
section
variable {ops : Array Oper} {rest : List Oper} {o : Oper} {a : Act} {Q : Exit → Act → World → Prop} {Kc : Act → World → Prop} {w : World} {base : Nat} {v : Value} {xs s : List UInt8}
theorem RowL.wpStr (hgd : o.guard = none) (sl : Operand) (t : ByteArray) (ho : o.op = .call { callee := .builtin .append, args := #[sl, .const (.string t)], argTypes := #[40, 9] }) (hs : a.eval sl = v) (ht : t = str s)
    (h : RowL w base v xs) (h0 : 0 < s.length) (hl : xs.length + s.length ≤ 1000000000) (hb : base ≤ w.heap.size)
    (hK : ∀ v1 w1, RowL w1 base v1 (xs ++ s) → w.grownBy w1 v.ownBlock → wpList Tryz.prog ops Q rest (a.put o.dst v1) w1) : wpList Tryz.prog ops Q (o :: rest) a w := by
  subst ht
  obtain ⟨v1, w1, h1, h2, h3⟩ := h.appendStr s h0 hl hb o.type
  exact Lib.wpList_append_run w hgd sl _ 40 9 ho v (.string (str s)) hs rfl v1 w1 h1 (hK v1 w1 h2 h3)
theorem RowL.stepStr (hw : Region.wanted o (yielded ops a.tmps) = true) (sl : Operand) (t : ByteArray) (ho : o.op = .call { callee := .builtin .append, args := #[sl, .const (.string t)], argTypes := #[40, 9] }) (hs : a.eval sl = v) (ht : t = str s)
    (h : RowL w base v xs) (h0 : 0 < s.length) (hl : xs.length + s.length ≤ 1000000000) (hb : base ≤ w.heap.size)
    (hK : ∀ v1 w1, RowL w1 base v1 (xs ++ s) → w.grownBy w1 v.ownBlock → Kc (a.put o.dst v1) w1) : if Region.wanted o (yielded ops a.tmps) = true then Oper.wp Tryz.prog o a w Kc Q else Kc (a.put o.dst undef) w := by
  subst ht
  obtain ⟨v1, w1, h1, h2, h3⟩ := h.appendStr s h0 hl hb o.type
  rw [if_pos hw]
  exact Lib.wp_append_run w sl _ 40 9 ho v (.string (str s)) hs rfl v1 w1 h1 (hK v1 w1 h2 h3)
theorem RowL.stepBytes (hw : Region.wanted o (yielded ops a.tmps) = true) (sl x : Operand) (ho : o.op = .call { callee := .builtin .append, args := #[sl, x], argTypes := #[40, 40] }) (hs : a.eval sl = v) {A : Option Addr} {c : Nat} (hx : a.eval x = .slice A s.length c)
    (h : RowL w base v xs) (hC : (Kd.int .u8).C w A s.length (ints s)) (h0 : 0 < s.length) (hl : xs.length + s.length ≤ 1000000000) (hb : base ≤ w.heap.size)
    (hK : ∀ v1 w1, RowL w1 base v1 (xs ++ s) → w.grownBy w1 v.ownBlock → Kc (a.put o.dst v1) w1) : if Region.wanted o (yielded ops a.tmps) = true then Oper.wp Tryz.prog o a w Kc Q else Kc (a.put o.dst undef) w := by
  obtain ⟨v1, w1, h1, h2, h3⟩ := h.appendBytes (c := c) hC h0 hl hb o.type
  rw [if_pos hw]
  exact Lib.wp_append_run w sl x 40 40 ho v _ hs hx v1 w1 h1 (hK v1 w1 h2 h3)
end
end Go.Proofs.YtafhkpnmolfjeaaGreatDoor.Rq
