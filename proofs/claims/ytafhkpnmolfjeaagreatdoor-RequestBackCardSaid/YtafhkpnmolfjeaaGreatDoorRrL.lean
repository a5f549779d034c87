/- RequestBack: rows that grow; the plain side. -/
import Derived.Test.YtafhkpnmolfjeaaGreatDoorMg
import Derived.Test.YtafhkpnmolfjeaaGreatDoorRrK
import Derived.Test.YtafhkpnmolfjeaaGreatDoorRrF
set_option linter.unusedVariables false
set_option linter.unusedSimpArgs false
namespace Go.Proofs.YtafhkpnmolfjeaaGreatDoor.Rq
open Go.RowKit Go.Proofs.YtafhkpnmolfjeaaGreatDoorW.PrintWords Go.Proofs.YtafhkpnmolfjeaaGreatDoor.PRequestBack

theorem bytesOf_str (t : List UInt8) : bytesOf (str t) = ints t := by simp [bytesOf, ints, str]
/-- Bytes that the call has made. -/
def AllAt (W : World) (base : Nat) (v : Value) (xs : List UInt8) : Prop := W.ownsRow base 5 1 v xs.length (nums .u8 (ints xs))
/-- Events that the call has made; their headers are of the world w. -/
def WantAt (w W : World) (base : Nat) (v : Value) (l : List S53) : Prop := OwnRow (k53.K w) 53 6 W base v l
theorem AllAt.nil (W : World) (base : Nat) : AllAt W base (.slice none 0 0) [] := own_nil _ _ _ _
theorem WantAt.nil (w W : World) (base : Nat) : WantAt w W base (.slice none 0 0) [] := OwnRow.none_ _ _ _ _ _
theorem AllAt.below {W W1 : World} {base : Nat} {v : Value} {xs : List UInt8} (h : AllAt W base v xs) (hB : Below W.heap.size W W1) : AllAt W1 base v xs := pw_own_below h hB
theorem WantAt.below {w W W1 : World} {base : Nat} {v : Value} {l : List S53} (h : WantAt w W base v l) (hB : Below W.heap.size W W1) : WantAt w W1 base v l := OwnRow.below h hB
theorem AllAt.grown {w W W1 : World} {b base : Nat} {v u : Value} {xs : List UInt8} {l : List S53} (h : AllAt W base v xs) (hu : WantAt w W b u l) (hg : W.grownBy W1 u.ownBlock) : AllAt W1 base v xs := by
  obtain ⟨inner, ho, _⟩ := hu
  exact own_other h hg (own_type_ne h ho (by decide))
theorem WantAt.grown {w W W1 : World} {b base : Nat} {v u : Value} {xs : List UInt8} {l : List S53} (h : WantAt w W base u l) (hv : AllAt W b v xs) (hg : W.grownBy W1 v.ownBlock) : WantAt w W1 base u l := by
  obtain ⟨inner, ho, hr⟩ := h
  exact ⟨inner, own_other ho hg (own_type_ne ho hv (by decide)), hr⟩
theorem AllAt.C {W : World} {base c : Nat} {A : Option Addr} {xs : List UInt8} (h : AllAt W base (.slice A xs.length c) xs) (hl : xs.length ≤ 1000000000) : (Kd.int .u8).C W A xs.length (ints xs) ∧ xs.length ≤ c := RowL.C (.inl h) hl
theorem AllAt.slice {W : World} {base : Nat} {v : Value} {xs : List UInt8} (h : AllAt W base v xs) : ∃ A c, v = .slice A xs.length c := RowL.slice (.inl h)
theorem AllAt.block {W : World} {base : Nat} {v : Value} {xs : List UInt8} (h : AllAt W base v xs) (k : Nat) (hk : v.ownBlock = some k) : base ≤ k ∧ k < W.heap.size := ⟨own_base h k hk, own_lt h k hk⟩
theorem WantAt.block {w W : World} {base : Nat} {v : Value} {l : List S53} (h : WantAt w W base v l) (k : Nat) (hk : v.ownBlock = some k) : base ≤ k ∧ k < W.heap.size := by
  obtain ⟨inner, ho, _⟩ := h
  exact ⟨own_base ho k hk, own_lt ho k hk⟩
theorem WantAt.C {w W : World} {base : Nat} {v : Value} {l : List S53} (h : WantAt w W base v l) (hB : Below w.heap.size w W) : ∃ A c, v = .slice A l.length c ∧ l.length ≤ c ∧ k53.C W A l.length l := by
  obtain ⟨A, c, rfl, hl, hr⟩ := OwnRow.reads h
  exact ⟨A, c, rfl, hl, hr.imp_ (Below.refl _ _) (fun _ _ hp => k53.K_below hB hp)⟩
section
variable {ops : Array Oper} {rest : List Oper} {o : Oper} {a : Act} {Q : Exit → Act → World → Prop} {w W : World} {base : Nat} {v : Value}
theorem all_wp (hgd : o.guard = none) (s x : Operand) (ho : o.op = .call { callee := .builtin .append, args := #[s, x], argTypes := #[40, 9] }) {xs t : List UInt8} (hs : a.eval s = v) (hx : a.eval x = .string (str t))
    (HA : AllAt W base v xs) (hbase : base ≤ W.heap.size) (hl : xs.length + t.length ≤ 1000000000)
    (h : ∀ v1 w1, AllAt w1 base v1 (xs ++ t) → W.grownBy w1 v.ownBlock → wpList Tryz.prog ops Q rest (a.put o.dst v1) w1) : wpList Tryz.prog ops Q (o :: rest) a W := by
  refine print_append_str (w0 := W) base hgd s x 40 9 5 ho Tryz.underlying40 Tryz.underlying9 (by kernel_rfl) v (ints xs) (str t) hs hx (by rw [ints_length]; exact HA) (Below.refl _ _) hbase (by rw [ints_length, str_size]; omega) ?_
  intro v1 w1 h1 _ h3
  refine h v1 w1 ?_ h3
  rw [bytesOf_str, ← ints_append, ints_length] at h1
  exact h1
theorem want_wp (hgd : o.guard = none) (s x : Operand) (ho : o.op = .call { callee := .builtin .append, args := #[s, x], argTypes := #[44, 44] }) {l : List S53} {p : S53} {cs : List Value} (hs : a.eval s = v) (hx : a.eval x = .slice (some ⟨W.heap.size, 0, none⟩) 1 1)
    (hp : k53.K w p cs) (HA : WantAt w W base v l) (hbase : base ≤ W.heap.size) (hl : l.length ≤ 1000000)
    (h : ∀ v1 w1, WantAt w w1 base v1 (l ++ [p]) → W.grownBy w1 v.ownBlock → wpList Tryz.prog ops Q rest (a.put o.dst v1) w1) : wpList Tryz.prog ops Q (o :: rest) a (W.alloc (.cells cs.toArray 53)) := by
  refine OwnRow.append (R := k53.K w) (w0 := W) base hgd s x 44 53 _ 6 88 ho Tryz.underlying44 info53 rfl (by decide) (by decide) v l p cs hs hx hp (k53.K_len hp) (k53.K_one hp) HA (Below.refl _ _) hbase (by omega) ?_
  intro v1 w1 h1 _ h3 _
  exact h v1 w1 h1 h3
end
/-! ### the plain side -/
def anyOver (ps : List S24) : Bool := ps.any fun q => !q.f4
theorem upTo_snoc (ps : List S24) (q : S24) : upTo (ps ++ [q]) = upTo ps ++ (if anyOver ps then [] else [⟨q, 0⟩]) := by
  induction ps with
  | nil => cases hq : q.f4 <;> simp [upTo, anyOver, hq]
  | cons p ps ih =>
    cases hp : p.f4
    · simp [upTo, anyOver, hp]
    · simp only [List.cons_append, upTo, hp, if_true, ih]
      simp [anyOver, hp]
theorem anyOver_snoc (ps : List S24) (q : S24) : anyOver (ps ++ [q]) = (anyOver ps || !q.f4) := by simp [anyOver]
theorem upTo_le (ps : List S24) : (upTo ps).length ≤ ps.length := by
  induction ps with
  | nil => simp [upTo]
  | cons p ps ih =>
    simp only [upTo, List.length_cons]
    split
    · omega
    · simp
theorem PrintsQ.prints {q : S24} (h : PrintsQ q) : Prints (textF q) q := by
  refine ⟨h.1, fun r' hr => ?_⟩
  have h2 := h.2
  have e : (feedS (some Rd.new) (textF q)).2 = some r' := hr
  rw [e] at h2
  exact h2
/-- The whole law. -/
theorem back_law (ps : List S24) (h : ∀ q ∈ ps, PrintsQ q) (hl : (ps.flatMap textF).length ≤ 1000000000) :
    (feedS (some Rd.new) (ps.flatMap textF)).1 = upTo ps ∧ leftS (feedS (some Rd.new) (ps.flatMap textF)).2 = 0 ∧ overS (feedS (some Rd.new) (ps.flatMap textF)).2 = anyOver ps := by
  have hm : (ps.map fun q => (textF q, q)).flatMap (·.1) = ps.flatMap textF := by simp [List.flatMap_map]
  have hn : (ps.map fun q => (textF q, q)).map (·.2) = ps := by
    rw [List.map_map]; exact List.map_id ps
  have := feed_back (ps.map fun q => (textF q, q)) 0 Rd.new (by
    intro p hp
    obtain ⟨q, hq, rfl⟩ := List.mem_map.1 hp
    exact (h q hq).prints) (.inl rfl) Fd.new (by rw [hm]; omega)
  rw [hm, hn] at this
  refine ⟨this.1, ?_⟩
  have hb := this.2
  cases ho : (feedS (some Rd.new) (ps.flatMap textF)).2 with
  | none =>
    rw [ho] at hb
    obtain ⟨q, hq, h4⟩ : ∃ q ∈ ps, q.f4 = false := hb
    refine ⟨rfl, ?_⟩
    show true = anyOver ps
    symm
    simp only [anyOver, List.any_eq_true]
    exact ⟨q, hq, by simp [h4]⟩
  | some r =>
    rw [ho] at hb
    obtain ⟨hs, hk⟩ : Sim Rd.new r ∧ ∀ q ∈ ps, q.f4 = true := hb
    refine ⟨?_, ?_⟩
    · rcases hs with rfl | ⟨_, s, rfl⟩ <;> rfl
    · show false = anyOver ps
      symm
      simp only [anyOver, List.any_eq_false]
      intro q hq
      simp [hk q hq]
end Go.Proofs.YtafhkpnmolfjeaaGreatDoor.Rq
