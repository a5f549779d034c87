/- The arguments of RequestBack and RequestPrints, read; the printed light. -/
import Derived.Test.YtafhkpnmolfjeaaGreatDoorMf
import Derived.Test.YtafhkpnmolfjeaaGreatDoorRrJ
import Derived.ChangeArms
import Derived.SizedLaws
set_option linter.unusedVariables false
set_option linter.unusedSimpArgs false
namespace Go.Proofs.YtafhkpnmolfjeaaGreatDoor.Rq
open Go.RowKit Go.Proofs.YtafhkpnmolfjeaaGreatDoorW.PrintWords Go.Proofs.YtafhkpnmolfjeaaGreatDoor.PRequestBack

theorem cells9' : Tryz.prog.cellsOf 9 = 1 := by kernel_rfl
theorem cells4' : Tryz.prog.cellsOf 4 = 1 := by kernel_rfl
theorem cells22' : Tryz.prog.cellsOf 22 = 1 := by kernel_rfl
theorem cells38' : Tryz.prog.cellsOf 38 = 2 := by kernel_rfl
theorem cells24' : Tryz.prog.cellsOf 24 = 5 := by kernel_rfl

theorem len2 : ∀ {cs : List Value}, cs.length = 2 → ∃ a b, cs = [a, b]
  | [a, b], _ => ⟨a, b, rfl⟩
theorem len5 : ∀ {cs : List Value}, cs.length = 5 → ∃ a b c d e, cs = [a, b, c, d, e]
  | [a, b, c, d, e], _ => ⟨a, b, c, d, e, rfl⟩
theorem wrap_small (x : Int) (h0 : 0 ≤ x) (h1 : x ≤ 9223372036854775807) : wrap64 x = x := by unfold wrap64; omega
theorem mem_weightsAll {H : Type} {P : Program} {e : TypeId} : ∀ {l : List (DataW H)} {d : DataW H}, d ∈ l → ∀ n ∈ d.weights P e, n ∈ DataW.weightsAll P e l
  | [], _, h, _, _ => by cases h
  | x :: l, d, h, n, hn => by
    simp only [DataW.weightsAll, List.mem_append]
    rcases List.mem_cons.1 h with rfl | h
    · exact .inl hn
    · exact .inr (mem_weightsAll h n hn)
theorem list_choose {α : Type} {P : Nat → α → Prop} : ∀ (n : Nat), (∀ i, i < n → ∃ x, P i x) → ∃ xs : List α, xs.length = n ∧ ∀ (i : Nat) x, xs[i]? = some x → P i x
  | 0, _ => ⟨[], rfl, fun i x h => by simp at h⟩
  | n + 1, h => by
    obtain ⟨xs, hl, hx⟩ := list_choose n (fun i hi => h i (by omega))
    obtain ⟨y, hy⟩ := h n (by omega)
    refine ⟨xs ++ [y], by simp [hl], fun i x e => ?_⟩
    by_cases hi : i < xs.length
    · rw [List.getElem?_append_left hi] at e
      exact hx i x e
    · rw [List.getElem?_append_right (by omega)] at e
      have : i - xs.length = 0 := by
        rcases Nat.eq_zero_or_pos (i - xs.length) with h0 | h0
        · exact h0
        · rw [List.getElem?_eq_none (by simp only [List.length_cons, List.length_nil]; omega)] at e; cases e
      rw [this] at e
      simp only [List.getElem?_cons_zero, Option.some.injEq] at e
      subst e
      rwa [show i = n from by omega]
/-- The weights of what came in are all small. -/
def Fits {H : Type} (t : TypeId) (d : DataW H) : Prop := ∀ n ∈ d.weights Tryz.prog t, n ≤ reachBytes
section
variable {H : Type} {enc : TypeId × Value → H} {W : World}
theorem row_arg {α : Type} {K : α → List Value → Prop} {Q : α → Prop} {t e sz : Nat} (ht : Tryz.prog.underlying t = some (.slice e)) (hsz : Tryz.prog.cellsOf e = sz)
    (hel : ∀ fuel cs y, DataW.trod enc Tryz.prog W 0 (fun _ => true) true fuel e cs = some y → Fits e y.1 → ∃ x, K x cs ∧ Q x)
    {fuel : Nat} {cs : List Value} {x : DataW H × List MemPlace} (h : DataW.trod enc Tryz.prog W 0 (fun _ => true) true fuel t cs = some x) (hw : Fits t x.1) :
    ∃ a cap xs, cs = [.slice a xs.length cap] ∧ ReadsRow K sz W a xs.length xs ∧ xs.length ≤ cap ∧ ∀ x ∈ xs, Q x := by
  rcases DataW.trod_slice ht h with ⟨rfl, rfl⟩ | ⟨a, len, cap, elems, rest, n, rfl, rfl, rfl, _, hlc, hcm, hlen, hel2, _, _⟩
  · exact ⟨none, 0, [], rfl, ⟨rfl, by simp, fun h => absurd h (by simp)⟩, Nat.le_refl _, fun x hx => by cases hx⟩
  · have hex : ∀ i, i < len → ∃ x, Q x ∧ ∃ c, c.length = sz ∧ K x c ∧ ∀ k u, c[k]? = some u → W.cell? (a.add (i * sz + k)) = some u := by
      intro i hi
      have h1 := hel2 i hi
      rw [hsz, List.getElem?_eq_getElem (by omega)] at h1
      obtain ⟨c, hc, hy⟩ := Option.bind_eq_some_iff.1 h1
      obtain ⟨_, hcl, hcell⟩ := World.cells?_some hc
      obtain ⟨x, hK, hQ⟩ := hel n c _ hy (fun m hm => hw m (by
        simp only [DataW.weights, ht, List.mem_cons, List.mem_append]
        exact .inr (.inl (mem_weightsAll (List.mem_map_of_mem (List.getElem_mem (by omega))) m hm))))
      refine ⟨x, hQ, c, hcl, hK, fun k u hu => ?_⟩
      have hk : k < c.length := (List.getElem?_eq_some_iff.1 hu).1
      rw [← Addr.add_add, hcell k (by omega), hu]
    obtain ⟨xs, hxl, hxs⟩ := list_choose len hex
    subst hxl
    refine ⟨some a, cap, xs, rfl, ⟨rfl, ?_, fun _ => ⟨a, rfl, fun j p hj => (hxs j p hj).2⟩⟩, hlc, fun x hx => ?_⟩
    · have : maxLen = 9223372036854775807 := by decide
      omega
    · obtain ⟨i, hi, rfl⟩ := List.getElem_of_mem hx
      exact (hxs i _ (List.getElem?_eq_getElem hi)).1
theorem str_arg {fuel : Nat} {cs : List Value} {x : DataW H × List MemPlace} (h : DataW.trod enc Tryz.prog W 0 (fun _ => true) true fuel 9 cs = some x) (hw : Fits 9 x.1) : ∃ s : ByteArray, cs = [.string s] ∧ s.size ≤ reachBytes := by
  obtain ⟨s, rfl, rfl, _⟩ := DataW.trod_string Tryz.underlying9 h
  have := hw s.data.toList.length (by simp [DataW.weights])
  refine ⟨s, rfl, ?_⟩
  rwa [Array.length_toList] at this
theorem one_cell {v : Value} {cs : List Value} {i : Nat} (h : (cs.drop i).take 1 = [v]) : cs[i]? = some v := by
  have := congrArg (fun l : List Value => l[0]?) h
  simpa [List.getElem?_take, List.getElem?_drop] using this
/-- A pair's strings fit. -/
def Fit38 (p : S38) : Prop := p.f0.size ≤ reachBytes ∧ p.f1.size ≤ reachBytes
def Fit24 (q : S24) : Prop := q.f0.size ≤ reachBytes ∧ q.f1.size ≤ reachBytes ∧ q.f3.size ≤ reachBytes ∧ ∀ p ∈ q.f2, Fit38 p
theorem fits_part {t : TypeId} {fs : Array Field} {xs : List (DataW H × List MemPlace)} (ht : Tryz.prog.underlying t = some (.struct fs)) (hw : Fits t (DataW.agg (xs.map (·.1)))) {i : Nat} {f : Field} {y : DataW H × List MemPlace} (hf : fs[i]? = some f) (hy : xs[i]? = some y) : Fits f.type y.1 := by
  intro n hn
  refine hw n ?_
  simp only [DataW.weights, ht]
  exact DataW.weights_mem_each (j := i) (t := f.type) (d := y.1) (by simp [hf]) (by simp [hy]) n hn
theorem pair_arg (fuel : Nat) (cs : List Value) (y : DataW H × List MemPlace) (h : DataW.trod enc Tryz.prog W 0 (fun _ => true) true fuel 38 cs = some y) (hw : Fits 38 y.1) : ∃ x : S38, k38.K W x cs ∧ Fit38 x := by
  obtain ⟨xs, n, rfl, rfl, hl, hxl, hx⟩ := DataW.trod_struct Tryz.underlying38 h
  have h0 : DataW.trod enc Tryz.prog W 0 (fun _ => true) true n 9 ((cs.drop 0).take (Tryz.prog.cellsOf 9)) = xs[0]? := hx 0 _ rfl
  have h1 : DataW.trod enc Tryz.prog W 0 (fun _ => true) true n 9 ((cs.drop 1).take (Tryz.prog.cellsOf 9)) = xs[1]? := hx 1 _ rfl
  rw [cells38'] at hl
  simp only [cells9'] at h0 h1
  have l0 : xs.length = 2 := hxl
  rw [List.getElem?_eq_getElem (by omega)] at h0 h1
  obtain ⟨s0, e0, b0⟩ := str_arg h0 (fits_part Tryz.underlying38 hw (i := 0) rfl (List.getElem?_eq_getElem (by omega)))
  obtain ⟨s1, e1, b1⟩ := str_arg h1 (fits_part Tryz.underlying38 hw (i := 1) rfl (List.getElem?_eq_getElem (by omega)))
  have g0 := one_cell e0
  have g1 := one_cell e1
  clear h0 h1 e0 e1 hx hw h
  obtain ⟨a, b, rfl⟩ := len2 hl
  simp only [List.getElem?_cons_zero, List.getElem?_cons_succ, Option.some.injEq] at g0 g1
  subst g0 g1
  exact ⟨⟨s0, s1⟩, k38_mk W ⟨s0, s1⟩, b0, b1⟩
theorem request_arg (fuel : Nat) (cs : List Value) (y : DataW H × List MemPlace) (h : DataW.trod enc Tryz.prog W 0 (fun _ => true) true fuel 24 cs = some y) (hw : Fits 24 y.1) : ∃ x : S24, k24.K W x cs ∧ Fit24 x := by
  obtain ⟨xs, n, rfl, rfl, hl, hxl, hx⟩ := DataW.trod_struct Tryz.underlying24 h
  have h0 : DataW.trod enc Tryz.prog W 0 (fun _ => true) true n 9 ((cs.drop 0).take (Tryz.prog.cellsOf 9)) = xs[0]? := hx 0 _ rfl
  have h1 : DataW.trod enc Tryz.prog W 0 (fun _ => true) true n 9 ((cs.drop 1).take (Tryz.prog.cellsOf 9)) = xs[1]? := hx 1 _ rfl
  have h2 : DataW.trod enc Tryz.prog W 0 (fun _ => true) true n 22 ((cs.drop 2).take (Tryz.prog.cellsOf 22)) = xs[2]? := hx 2 _ rfl
  have h3 : DataW.trod enc Tryz.prog W 0 (fun _ => true) true n 9 ((cs.drop 3).take (Tryz.prog.cellsOf 9)) = xs[3]? := hx 3 _ rfl
  have h4 : DataW.trod enc Tryz.prog W 0 (fun _ => true) true n 4 ((cs.drop 4).take (Tryz.prog.cellsOf 4)) = xs[4]? := hx 4 _ rfl
  rw [cells24'] at hl
  simp only [cells9', cells22', cells4'] at h0 h1 h2 h3 h4
  have l0 : xs.length = 5 := hxl
  rw [List.getElem?_eq_getElem (by omega)] at h0 h1 h2 h3 h4
  obtain ⟨s0, e0, b0⟩ := str_arg h0 (fits_part Tryz.underlying24 hw (i := 0) rfl (List.getElem?_eq_getElem (by omega)))
  obtain ⟨s1, e1, b1⟩ := str_arg h1 (fits_part Tryz.underlying24 hw (i := 1) rfl (List.getElem?_eq_getElem (by omega)))
  obtain ⟨s3, e3, b3⟩ := str_arg h3 (fits_part Tryz.underlying24 hw (i := 3) rfl (List.getElem?_eq_getElem (by omega)))
  obtain ⟨A, c, ps, e2, hC, hc, b2⟩ := row_arg (K := k38.K W) Tryz.underlying22 cells38' pair_arg h2 (fits_part Tryz.underlying24 hw (i := 2) rfl (List.getElem?_eq_getElem (by omega)))
  obtain ⟨kb, e4, _⟩ := DataW.trod_bool Tryz.underlying4 h4
  have g0 := one_cell e0
  have g1 := one_cell e1
  have g2 := one_cell e2
  have g3 := one_cell e3
  have g4 := one_cell e4
  clear h0 h1 h2 h3 h4 e0 e1 e2 e3 e4 hx hw h
  obtain ⟨c0, c1, c2, c3, c4, rfl⟩ := len5 hl
  simp only [List.getElem?_cons_zero, List.getElem?_cons_succ, Option.some.injEq] at g0 g1 g2 g3 g4
  subst g0 g1 g2 g3 g4
  exact ⟨⟨s0, s1, ps, s3, kb⟩, k24_mk W ⟨s0, s1, ps, s3, kb⟩ hc hC, b0, b1, b3, b2⟩
/-- A slice of requests that came in. -/
theorem requests_arg {a : Option Addr} {len cap : Nat} {d : DataW H} {p : List MemPlace} {fuel : Nat}
    (h : DataW.trod enc Tryz.prog W 0 (fun _ => true) true fuel 64 (Value.slice a len cap).cells.toList = some (d, p)) (hw : Fits 64 d) :
    ∃ qs : List S24, len = qs.length ∧ k24.C W a qs.length qs ∧ qs.length ≤ cap ∧ ∀ q ∈ qs, Fit24 q := by
  obtain ⟨a', cap', xs, e, hC, hc, hq⟩ := row_arg (K := k24.K W) Tryz.underlying64 cells24' request_arg h hw
  have e' : Value.slice a len cap = Value.slice a' xs.length cap' := by simpa [Value.cells] using e
  injection e' with e1 e2 e3
  subst e1 e2 e3
  exact ⟨xs, rfl, hC, hc, hq⟩
end
/-! ### The printed light -/
theorem light_l0 (l : List S38) (hl : l.length ≤ 9223372036854775807) {B : Nat} (hB : B ≤ 1000000000000000) (hf : ∀ p ∈ l, p.f0.size ≤ B ∧ p.f1.size ≤ B) (d : Nat) : ∀ (i k : Nat) (z : Nat), i + d = l.length → d < k → z ≤ 3 * B + 20000 → (0 < i → z ≤ 20000) → ∃ r, ingotlaw23_light.l0 k (z : Int) l (l.length : Int) (i : Int) = some r ∧ (r = true ↔ z + hwt (l.drop i) ≤ 20000) := by
  induction d with
  | zero =>
    intro i k z h hk hz _
    obtain ⟨k, rfl⟩ : ∃ k', k = k' + 1 := ⟨k - 1, by omega⟩
    simp only [ingotlaw23_light.l0]
    rw [if_neg (by omega), List.drop_eq_nil_of_le (by omega)]
    refine ⟨_, rfl, ?_⟩
    simp only [hwt, decide_eq_true_eq]
    omega
  | succ d ih =>
    intro i k z h hk hz hz2
    obtain ⟨k, rfl⟩ : ∃ k', k = k' + 1 := ⟨k - 1, by omega⟩
    have hi : i < l.length := by omega
    have hr : rd_T38 l (i : Int) = l[i] := by simp [rd_T38, List.getElem?_eq_getElem hi]
    obtain ⟨f0, f1⟩ := hf _ (List.getElem_mem hi)
    have e : wrap64 ((z : Int) + (wrap64 ((wrap64 (20 + (l[i].f0.size : Int))) + (l[i].f1.size : Int)))) = ((z + (20 + l[i].f0.size + l[i].f1.size) : Nat) : Int) := by
      generalize l[i].f0.size = a at *
      generalize l[i].f1.size = b at *
      rw [wrap_small (20 + (a : Int)) (by omega) (by omega), wrap_small (20 + (a : Int) + b) (by omega) (by omega), wrap_small _ (by omega) (by omega)]
      omega
    have hw : wrap64 ((i : Int) + 1) = ((i + 1 : Nat) : Int) := by unfold wrap64; omega
    simp only [ingotlaw23_light.l0]
    rw [if_pos (by omega), if_pos (by omega), if_pos (by omega), hr, e, List.drop_eq_getElem_cons hi, hw]
    by_cases hg : 20000 < z + (20 + l[i].f0.size + l[i].f1.size)
    · rw [if_pos (by omega)]
      refine ⟨false, rfl, ?_⟩
      simp only [hwt, Bool.false_eq_true, false_iff]
      omega
    · rw [if_neg (by omega)]
      obtain ⟨r, h1, h2⟩ := ih (i + 1) k (z + (20 + l[i].f0.size + l[i].f1.size)) (by omega) (by omega) (by omega) (fun _ => by omega)
      refine ⟨r, h1, h2.trans ?_⟩
      simp only [hwt]
      omega
theorem light_f (q : S24) (hl : q.f2.length ≤ 9223372036854775807) (hf : Fit24 q) : ∃ k r, ingotlaw23_light.f k q.f0 q.f1 q.f2 q.f3 q.f4 = some r ∧ (r = true ↔ wt q ≤ 20000) := by
  obtain ⟨f0, f1, f3, f2⟩ := hf
  have hB : reachBytes ≤ 1000000000000000 := by decide
  revert f0 f1 f3 f2
  unfold Fit38
  generalize reachBytes = B at *
  intro f0 f1 f3 f2
  have e : wrap64 ((wrap64 ((q.f0.size : Int) + (q.f1.size : Int))) + (q.f3.size : Int)) = ((q.f0.size + q.f1.size + q.f3.size : Nat) : Int) := by
    rw [wrap_small ((q.f0.size : Int) + q.f1.size) (by omega) (by omega), wrap_small _ (by omega) (by omega)]
    omega
  obtain ⟨r, h1, h2⟩ := light_l0 q.f2 hl hB f2 q.f2.length 0 (q.f2.length + 1) (q.f0.size + q.f1.size + q.f3.size) (by omega) (by omega) (by omega) (fun h => absurd h (by omega))
  refine ⟨q.f2.length + 1, r, ?_, by simpa [wt] using h2⟩
  unfold ingotlaw23_light.f
  rw [e]
  exact h1
theorem light_calls {w : World} (q : S24) {A : Option Addr} {c : Nat} (hC : k38.C w A q.f2.length q.f2) (hc : q.f2.length ≤ c) (hf : Fit24 q) :
    Calls Tryz.prog 27 #[.agg #[.string q.f0, .string q.f1, .slice A q.f2.length c, .string q.f3, .bool q.f4]] w fun e w' => (∃ r, e = .returned (.bool r) ∧ (r = true ↔ wt q ≤ 20000)) ∧ Below w.heap.size w w' := by
  obtain ⟨k, r, h2, h3⟩ := light_f q hC.2.1 hf
  refine (ingotlaw23_light.calls k q.f0 q.f1 A c q.f2 q.f3 q.f4 r w hC hc h2).mono ?_
  rintro e w' ⟨rfl, hB⟩
  exact ⟨⟨r, rfl, h3⟩, hB⟩
end Go.Proofs.YtafhkpnmolfjeaaGreatDoor.Rq
