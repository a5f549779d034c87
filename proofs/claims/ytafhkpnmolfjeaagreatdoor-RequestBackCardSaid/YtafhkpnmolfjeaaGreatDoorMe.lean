/- Plain law: what the reader does with more bytes behind those that wait. · Plain law: what holds of a reader along the loop; feeding in pieces. · A reader that may be over: Feed, Left, Over; what lies where. · Plain law: a body in chunks. · Plain law: requests that are printed, one behind the other. -/
import Derived.Test.YtafhkpnmolfjeaaGreatDoorMc
import Derived.Test.YtafhkpnmolfjeaaGreatDoorMd
/-! ## RqK: Plain law: what the reader does with more bytes behind those that wait. -/
set_option linter.unusedVariables false
set_option linter.unusedSimpArgs false
namespace Go.Proofs.YtafhkpnmolfjeaaGreatDoor.Rq
open Go.RowKit Go.Proofs.YtafhkpnmolfjeaaGreatDoorW.PrintWords Go.Proofs.YtafhkpnmolfjeaaGreatDoor.PRequestBack

theorem crlf_ge (xs : List UInt8) : -1 ≤ crlf xs := Lib.index_ge xs _
theorem crlf_cons (x : UInt8) (xs : List UInt8) : crlf (x :: xs) = if [13, 10].isPrefixOf (x :: xs) then 0 else if crlf xs = -1 then -1 else crlf xs + 1 := by
  unfold crlf
  simp only [Lib.index, beq_iff_eq]
theorem crlf_app : ∀ (xs ys : List UInt8), 0 ≤ crlf xs → crlf (xs ++ ys) = crlf xs
  | [], ys, h => by simp [crlf, Lib.index] at h
  | x :: xs, ys, h => by
    rw [List.cons_append, crlf_cons, crlf_cons]
    rw [crlf_cons] at h
    by_cases hp : [13, 10].isPrefixOf (x :: xs) = true
    · have : [13, 10].isPrefixOf (x :: (xs ++ ys)) = true := by
        rw [List.isPrefixOf_iff_prefix] at hp ⊢
        exact hp.trans (List.prefix_append (x :: xs) ys)
      rw [if_pos hp, if_pos this]
    · rw [if_neg hp] at h ⊢
      by_cases h1 : crlf xs = -1
      · rw [if_pos h1] at h; omega
      · have h2 : 0 ≤ crlf xs := by have := crlf_ge xs; omega
        have ih := crlf_app xs ys h2
        have hp' : ¬ [13, 10].isPrefixOf (x :: (xs ++ ys)) = true := by
          intro hq
          apply hp
          cases xs with
          | nil => simp [crlf, Lib.index] at h2
          | cons z zs =>
            simp only [List.cons_append, List.isPrefixOf, Bool.and_eq_true, Bool.and_true] at hq ⊢
            exact hq
        rw [if_neg hp', ih]
theorem crlf_late : ∀ (xs ys : List UInt8), crlf xs < 0 → 0 ≤ crlf (xs ++ ys) → (xs.length : Int) ≤ crlf (xs ++ ys) + 1
  | [], ys, _, h => by simp only [List.length_nil, List.nil_append] at h ⊢; omega
  | x :: xs, ys, h, h0 => by
    rw [crlf_cons] at h
    rw [List.cons_append, crlf_cons] at h0 ⊢
    have hp : ¬ [13, 10].isPrefixOf (x :: xs) = true := by
      intro hp; rw [if_pos hp] at h; omega
    rw [if_neg hp] at h
    have h1 : crlf xs = -1 := by
      by_cases h1 : crlf xs = -1
      · exact h1
      · rw [if_neg h1] at h; have := crlf_ge xs; omega
    by_cases hq : [13, 10].isPrefixOf (x :: (xs ++ ys)) = true
    · rw [if_pos hq]
      cases xs with
      | nil => simp
      | cons z zs =>
        exfalso; apply hp
        simp only [List.cons_append, List.isPrefixOf, Bool.and_eq_true, Bool.and_true] at hq ⊢
        exact hq
    · rw [if_neg hq] at h0 ⊢
      by_cases h2 : crlf (xs ++ ys) = -1
      · rw [if_pos h2] at h0; omega
      · rw [if_neg h2]
        have := crlf_late xs ys (by omega) (by have := crlf_ge (xs ++ ys); omega)
        simp only [List.length_cons]
        omega

def Rd.ext (r : Rd) (x : List UInt8) : Rd := { r with wait := r.wait ++ x }
def Res.ext (x : List UInt8) : Res → Res
  | .more r => .more (r.ext x)
  | .wait r => .wait (r.ext x)
  | .over l => .over l
theorem stopF_ext (st : Int) (r : Rd) (x : List UInt8) : stopF st (r.ext x) = (stopF st r).ext x := rfl
theorem doneF_ext (r : Rd) (x : List UInt8) : doneF (r.ext x) = (doneF r).ext x := by
  unfold doneF
  show (if r.q.f4 then _ else _) = _
  cases r.q.f4 <;> rfl
theorem bodyF_ext (r : Rd) (x : List UInt8) (h0 : 0 ≤ r.size) (h : r.size ≤ r.wait.length) : bodyF (r.ext x) = (bodyF r).ext x := by
  have h1 : ¬ (r.wait.length : Int) < r.size := by omega
  have h2 : ¬ ((r.ext x).wait.length : Int) < (r.ext x).size := by simp only [Rd.ext, List.length_append]; omega
  unfold bodyF
  rw [if_neg h1, if_neg h2, ← doneF_ext]
  congr 1
  simp only [Rd.ext]
  rw [List.drop_append_of_le_length (by omega), List.take_append_of_le_length (by omega)]
theorem chunkF_ext (r : Rd) (x : List UInt8) (h0 : 0 ≤ r.size) (h : r.size + 2 ≤ r.wait.length) : chunkF (r.ext x) = (chunkF r).ext x := by
  have h1 : ¬ (r.wait.length : Int) < r.size + 2 := by omega
  have h2 : ¬ ((r.ext x).wait.length : Int) < (r.ext x).size + 2 := by simp only [Rd.ext, List.length_append]; omega
  have hc : (r.ext x).chunked = r.chunked.ext x := by
    simp only [Rd.chunked, Rd.ext]
    rw [List.drop_append_of_le_length (by omega), List.take_append_of_le_length (by omega)]
  have hw : ((r.ext x).wait.take ((r.ext x).size.toNat + 2)).drop (r.ext x).size.toNat = (r.wait.take (r.size.toNat + 2)).drop r.size.toNat := by
    simp only [Rd.ext]
    rw [List.take_append_of_le_length (by omega)]
  unfold chunkF
  rw [if_neg h1, if_neg h2, hw, hc]
  show (if _ then (if r.size = 0 then _ else _) else _) = _
  by_cases a : (r.wait.take (r.size.toNat + 2)).drop r.size.toNat = [13, 10]
  · rw [if_pos a, if_pos a]
    by_cases b : r.size = 0
    · rw [if_pos b, if_pos b, doneF_ext]
    · rw [if_neg b, if_neg b]; rfl
  · rw [if_neg a, if_neg a]; rfl
theorem behindF_ext (r : Rd) (x : List UInt8) : behindF (r.ext x) = (behindF r).ext x := by
  unfold behindF
  show (if 1 < (vals r.q.f2 tLength).length + (vals r.q.f2 tCoding).length then _ else _) = _
  split
  · rfl
  · show (match vals r.q.f2 tCoding with | c :: _ => _ | [] => _) = _
    cases vals r.q.f2 tCoding with
    | cons c cs =>
      show (if _ then _ else _) = Res.ext x (if _ then _ else _)
      split <;> rfl
    | nil =>
      show (match vals r.q.f2 tLength with | [] => _ | l :: _ => _) = _
      cases vals r.q.f2 tLength with
      | nil => exact doneF_ext r.kept x
      | cons l ls =>
        show (if _ then _ else _) = Res.ext x (if _ then _ else _)
        split
        · rfl
        · show (match atoiF l with | none => _ | some n => _) = Res.ext x (match atoiF l with | none => _ | some n => _)
          cases atoiF l with
          | none => rfl
          | some n =>
            show (if _ then _ else _) = Res.ext x (if _ then _ else _)
            split <;> rfl
theorem cutLine_ext (r : Rd) (x : List UInt8) (i : Nat) (h : i + 2 ≤ r.wait.length) : (r.ext x).cutLine i = (r.cutLine i).ext x := by
  simp only [Rd.cutLine, Rd.ext]
  rw [List.drop_append_of_le_length h]
theorem line_ext (r : Rd) (x : List UInt8) (i : Nat) (h : i + 2 ≤ r.wait.length) : (r.ext x).line i = (r.line i).ext x := by
  simp only [Rd.line, Rd.ext]
  rw [List.drop_append_of_le_length h]
/-- Whether a line is too long, or not there yet: more bytes do not turn the first. -/
theorem noline_ext (w x : List UInt8) (most : Int) (h : crlf w < 0 ∨ most < crlf w + 2) (hl : most ≤ w.length) : (crlf (w ++ x) < 0 ∨ most < crlf (w ++ x) + 2) ∧ most ≤ ((w ++ x).length : Nat) := by
  refine ⟨?_, by rw [List.length_append]; omega⟩
  by_cases h0 : crlf (w ++ x) < 0
  · exact .inl h0
  · right
    by_cases h1 : crlf w < 0
    · have := crlf_late w x h1 (by omega); omega
    · rw [crlf_app w x (by omega)]; omega
theorem sizeF_ext (r : Rd) (x : List UInt8) (h : ¬ (crlf r.wait < 0 ∨ 6 < crlf r.wait + 2) ∨ (6 : Int) ≤ r.wait.length) : sizeF (r.ext x) = (sizeF r).ext x := by
  by_cases hi : crlf r.wait < 0 ∨ 6 < crlf r.wait + 2
  · have hl : (6 : Int) ≤ r.wait.length := h.resolve_left (fun hn => hn hi)
    obtain ⟨h1, h2⟩ := noline_ext r.wait x 6 hi hl
    unfold sizeF
    rw [if_pos hi, if_pos hl, if_pos (show crlf (r.ext x).wait < 0 ∨ 6 < crlf (r.ext x).wait + 2 from h1), if_pos (show (6 : Int) ≤ (r.ext x).wait.length from h2)]
    rfl
  · have hc : crlf (r.ext x).wait = crlf r.wait := crlf_app r.wait x (by omega)
    have hs := crlf_size r.wait (by omega)
    have ht : (r.ext x).wait.take (crlf r.wait).toNat = r.wait.take (crlf r.wait).toNat := List.take_append_of_le_length (by omega)
    unfold sizeF
    rw [hc, if_neg hi, if_neg hi, ht, cutLine_ext r x _ (by omega)]
    cases hexF (r.wait.take (crlf r.wait).toNat) with
    | none => rfl
    | some n =>
      show (if 8192 < (r.body.length : Int) + n then _ else _) = Res.ext x (if 8192 < (r.body.length : Int) + n then _ else _)
      split <;> rfl
def HStep.ext (x : List UInt8) : HStep → HStep
  | .stop st => .stop st
  | .need => .need
  | .next r => .next (r.ext x)
  | .behind r => .behind (r.ext x)
/-- What the step looks at stands in the first bytes. -/
theorem headStep_ext (r : Rd) (x : List UInt8) (h : ¬ (crlf r.wait < 0 ∨ 2048 - r.head < crlf r.wait + 2) ∨ 2048 - r.head ≤ r.wait.length) : headStep (r.ext x) = (headStep r).ext x := by
  by_cases hi : crlf r.wait < 0 ∨ 2048 - r.head < crlf r.wait + 2
  · have hl : 2048 - r.head ≤ r.wait.length := h.resolve_left (fun hn => hn hi)
    obtain ⟨h1, h2⟩ := noline_ext r.wait x (2048 - r.head) hi hl
    unfold headStep
    rw [if_pos hi, if_pos hl, if_pos (show crlf (r.ext x).wait < 0 ∨ 2048 - (r.ext x).head < crlf (r.ext x).wait + 2 from h1), if_pos (show 2048 - (r.ext x).head ≤ (r.ext x).wait.length from h2)]
    rfl
  · have hc : crlf (r.ext x).wait = crlf r.wait := crlf_app r.wait x (by omega)
    have hs := crlf_size r.wait (by omega)
    have ht : (r.ext x).wait.take (crlf r.wait).toNat = r.wait.take (crlf r.wait).toNat := List.take_append_of_le_length (by omega)
    have hl := line_ext r x (crlf r.wait).toNat (by omega)
    unfold headStep
    rw [hc, if_neg hi, if_neg (show ¬ (crlf r.wait < 0 ∨ 2048 - (r.ext x).head < crlf r.wait + 2) from hi), ht, hl]
    have hln : (r.ext x).lines = r.lines := rfl
    have hq : (r.ext x).q = r.q := rfl
    have ho : (r.ext x).old = r.old := rfl
    rw [hln, hq, ho]
    by_cases a : 1 < r.lines + 1 ∧ r.wait.take (crlf r.wait).toNat = []
    · rw [if_pos a, if_pos a]; rfl
    · rw [if_neg a, if_neg a]
      by_cases b : 33 < r.lines + 1
      · rw [if_pos b, if_pos b]; rfl
      · rw [if_neg b, if_neg b]
        by_cases c : r.lines + 1 = 1
        · rw [if_pos c, if_pos c]
          cases firstF (str (r.wait.take (crlf r.wait).toNat)) with
          | none => rfl
          | some p => rfl
        · rw [if_neg c, if_neg c]
          cases headerF (str (r.wait.take (crlf r.wait).toNat)) with
          | none => rfl
          | some p => rfl
theorem headStep_need (r : Rd) (h : crlf r.wait < 0 ∨ 2048 - r.head < crlf r.wait + 2) (hl : ¬ 2048 - r.head ≤ r.wait.length) : headStep r = .need := by
  unfold headStep
  rw [if_pos h, if_neg hl]
theorem headStep_next {r r' : Rd} (h : headStep r = .next r') : r'.wait.length + 2 ≤ r.wait.length := by
  unfold headStep at h
  split at h
  · split at h <;> cases h
  · rename_i hi
    have hs := crlf_size r.wait (by omega)
    split at h
    · cases h
    · split at h
      · cases h
      · split at h
        · split at h
          · cases h
          · injection h with h; subst h
            simp only [Rd.line, List.length_drop]; omega
        · split at h
          · cases h
          · injection h with h; subst h
            simp only [Rd.line, List.length_drop]; omega
theorem doneF_go (r r' : Rd) : doneF r ≠ .wait r' := by
  unfold doneF
  split <;> (intro h; cases h)
theorem behindF_go (r r' : Rd) : behindF r ≠ .wait r' := by
  unfold behindF
  split
  · intro h; cases h
  · split
    · split <;> (intro h; cases h)
    · split
      · exact doneF_go _ _
      · split
        · intro h; cases h
        · split
          · intro h; cases h
          · split <;> (intro h; cases h)
theorem headF_succ (n : Nat) (r : Rd) : headF (n + 1) r = (match headStep r with | .stop st => stopF st r | .need => .wait r | .next r' => headF n r' | .behind r' => behindF r') := rfl
theorem headF_fuel : ∀ (n m : Nat) (r : Rd), r.wait.length < n → r.wait.length < m → headF n r = headF m r
  | 0, _, _, h, _ => absurd h (by omega)
  | _ + 1, 0, _, _, h => absurd h (by omega)
  | n + 1, m + 1, r, h1, h2 => by
    rw [headF_succ, headF_succ]
    cases hs : headStep r with
    | stop st => rfl
    | need => rfl
    | behind r1 => rfl
    | next r1 =>
      have := headStep_next hs
      exact headF_fuel n m r1 (by omega) (by omega)
theorem headF_ext : ∀ (n m : Nat) (r : Rd) (x : List UInt8), r.wait.length < n → (r.wait ++ x).length < m →
    (∀ r', headF n r = .wait r' → r'.wait.length ≤ r.wait.length ∧ headF m (r.ext x) = headF m (r'.ext x)) ∧ ((∀ r', headF n r ≠ .wait r') → headF m (r.ext x) = (headF n r).ext x)
  | 0, _, _, _, h, _ => absurd h (by omega)
  | _ + 1, 0, _, _, _, h => absurd h (by omega)
  | n + 1, m + 1, r, x, h1, h2 => by
    by_cases hc : ¬ (crlf r.wait < 0 ∨ 2048 - r.head < crlf r.wait + 2) ∨ 2048 - r.head ≤ r.wait.length
    · have he := headStep_ext r x hc
      rw [headF_succ, headF_succ, he]
      cases hs : headStep r with
      | stop st => exact ⟨fun r' h => (by cases h), fun _ => rfl⟩
      | need =>
        refine ⟨fun r' h => ?_, fun h => absurd rfl (h r)⟩
        injection h with h
        subst h
        refine ⟨Nat.le_refl _, ?_⟩
        rw [headF_succ, he, hs]
      | behind r1 => exact ⟨fun r' h => absurd h (behindF_go r1 r'), fun _ => behindF_ext r1 x⟩
      | next r1 =>
        have hn := headStep_next hs
        rw [List.length_append] at h2
        obtain ⟨i1, i2⟩ := headF_ext n m r1 x (by omega) (by rw [List.length_append]; omega)
        refine ⟨fun r' h => ?_, fun h => i2 h⟩
        obtain ⟨j1, j2⟩ := i1 r' h
        refine ⟨by omega, ?_⟩
        show headF m (r1.ext x) = _
        rw [j2]
        have hl : (r'.ext x).wait.length = r'.wait.length + x.length := by simp [Rd.ext]
        exact headF_fuel m (m + 1) _ (by omega) (by omega)
    · have hi : crlf r.wait < 0 ∨ 2048 - r.head < crlf r.wait + 2 := Classical.not_not.1 (fun h => hc (.inl h))
      have hn := headStep_need r hi (fun h => hc (.inr h))
      rw [headF_succ, hn]
      refine ⟨fun r' h => ?_, fun h => absurd rfl (h r)⟩
      injection h with h
      subst h
      exact ⟨Nat.le_refl _, rfl⟩
/-- One step, whatever state. -/
def stepF (r : Rd) : Res := match r.nx with
  | .over => .wait r
  | .head => headF (r.wait.length + 1) r
  | .body => bodyF r
  | .size => sizeF r
  | .chunk => chunkF r
/-! ### What was told before stays in front -/
def Rd.pre (t : List S53) (r : Rd) : Rd := { r with told := t ++ r.told }
def Res.pre (t : List S53) : Res → Res
  | .more r => .more (r.pre t)
  | .wait r => .wait (r.pre t)
  | .over l => .over (t ++ l)
theorem stopF_pre (st : Int) (r : Rd) (t : List S53) : stopF st (r.pre t) = (stopF st r).pre t := by
  show Res.over ((t ++ r.told) ++ _) = Res.over (t ++ (r.told ++ _))
  rw [List.append_assoc]
theorem doneF_pre (r : Rd) (t : List S53) : doneF (r.pre t) = (doneF r).pre t := by
  unfold doneF
  show (if r.q.f4 then Res.more { r.begun with told := (t ++ r.told) ++ [⟨r.whole, 0⟩] } else .over ((t ++ r.told) ++ [⟨r.whole, 0⟩])) = _
  rw [List.append_assoc]
  cases r.q.f4 <;> rfl
theorem bodyF_pre (r : Rd) (t : List S53) : bodyF (r.pre t) = (bodyF r).pre t := by
  unfold bodyF
  show (if (r.wait.length : Int) < r.size then _ else _) = _
  split
  · rfl
  · exact doneF_pre { r with wait := r.wait.drop r.size.toNat, used := r.used + r.size, body := r.body ++ r.wait.take r.size.toNat } t
theorem chunkF_pre (r : Rd) (t : List S53) : chunkF (r.pre t) = (chunkF r).pre t := by
  unfold chunkF
  show (if (r.wait.length : Int) < r.size + 2 then _ else if (r.wait.take (r.size.toNat + 2)).drop r.size.toNat = [13, 10] then (if r.size = 0 then _ else _) else _) = _
  split
  · rfl
  · split
    · split
      · exact doneF_pre r.chunked t
      · rfl
    · exact stopF_pre 400 r t
theorem sizeF_pre (r : Rd) (t : List S53) : sizeF (r.pre t) = (sizeF r).pre t := by
  unfold sizeF
  show (if crlf r.wait < 0 ∨ 6 < crlf r.wait + 2 then (if (6 : Int) ≤ r.wait.length then _ else _) else (match hexF (r.wait.take (crlf r.wait).toNat) with | none => _ | some n => _)) = _
  split
  · split
    · exact stopF_pre 400 r t
    · rfl
  · cases hexF (r.wait.take (crlf r.wait).toNat) with
    | none => exact stopF_pre 400 (r.cutLine (crlf r.wait).toNat) t
    | some n =>
      show (if 8192 < (r.body.length : Int) + n then _ else _) = Res.pre t (if 8192 < (r.body.length : Int) + n then _ else _)
      split
      · exact stopF_pre 413 (r.cutLine (crlf r.wait).toNat) t
      · rfl
theorem behindF_pre (r : Rd) (t : List S53) : behindF (r.pre t) = (behindF r).pre t := by
  unfold behindF
  show (if 1 < (vals r.q.f2 tLength).length + (vals r.q.f2 tCoding).length then _ else _) = _
  split
  · exact stopF_pre 400 r.kept t
  · show (match vals r.q.f2 tCoding with | c :: _ => _ | [] => _) = _
    cases vals r.q.f2 tCoding with
    | cons c cs =>
      show (if _ then _ else _) = Res.pre t (if _ then _ else _)
      split
      · rfl
      · exact stopF_pre 400 r.kept t
    | nil =>
      show (match vals r.q.f2 tLength with | [] => _ | l :: _ => _) = _
      cases vals r.q.f2 tLength with
      | nil => exact doneF_pre r.kept t
      | cons l ls =>
        show (if _ then _ else _) = Res.pre t (if _ then _ else _)
        split
        · exact stopF_pre 400 r.kept t
        · show (match atoiF l with | none => _ | some n => _) = Res.pre t (match atoiF l with | none => _ | some n => _)
          cases atoiF l with
          | none => exact stopF_pre 413 r.kept t
          | some n =>
            show (if _ then _ else _) = Res.pre t (if _ then _ else _)
            split
            · exact stopF_pre 413 r.kept t
            · rfl
def HStep.pre (t : List S53) : HStep → HStep
  | .stop st => .stop st
  | .need => .need
  | .next r => .next (r.pre t)
  | .behind r => .behind (r.pre t)
theorem headStep_pre (r : Rd) (t : List S53) : headStep (r.pre t) = (headStep r).pre t := by
  unfold headStep
  show (if crlf r.wait < 0 ∨ 2048 - r.head < crlf r.wait + 2 then (if 2048 - r.head ≤ r.wait.length then _ else _) else
    if 1 < r.lines + 1 ∧ r.wait.take (crlf r.wait).toNat = [] then _ else if 33 < r.lines + 1 then _ else if r.lines + 1 = 1 then
      (match firstF (str (r.wait.take (crlf r.wait).toNat)) with | none => _ | some (a, b, o) => _)
    else (match headerF (str (r.wait.take (crlf r.wait).toNat)) with | none => _ | some p => _)) = _
  split
  · split <;> rfl
  · split
    · rfl
    · split
      · rfl
      · split
        · cases firstF (str (r.wait.take (crlf r.wait).toNat)) with
          | none => rfl
          | some p => rfl
        · cases headerF (str (r.wait.take (crlf r.wait).toNat)) with
          | none => rfl
          | some p => rfl
theorem headF_pre : ∀ (n : Nat) (r : Rd) (t : List S53), headF n (r.pre t) = (headF n r).pre t
  | 0, r, t => rfl
  | n + 1, r, t => by
    rw [headF_succ, headF_succ, headStep_pre]
    cases headStep r with
    | stop st => exact stopF_pre st r t
    | need => rfl
    | next r1 => exact headF_pre n r1 t
    | behind r1 => exact behindF_pre r1 t
theorem stepF_pre (r : Rd) (t : List S53) : stepF (r.pre t) = (stepF r).pre t := by
  unfold stepF
  show (match r.nx with | .over => _ | .head => _ | .body => _ | .size => _ | .chunk => _) = _
  cases r.nx with
  | over => rfl
  | head => exact headF_pre _ r t
  | body => exact bodyF_pre r t
  | size => exact sizeF_pre r t
  | chunk => exact chunkF_pre r t
theorem headF_nx : ∀ (n : Nat) (r r' : Rd), headF n r = .wait r' → r'.nx = r.nx
  | 0, r, r', h => by injection h with h; rw [h]
  | n + 1, r, r', h => by
    rw [headF_succ] at h
    cases hs : headStep r with
    | stop st => rw [hs] at h; cases h
    | need => rw [hs] at h; injection h with h; rw [h]
    | behind r1 => rw [hs] at h; exact absurd h (behindF_go r1 r')
    | next r1 =>
      rw [hs] at h
      have h1 := headF_nx n r1 r' h
      rw [h1]
      unfold headStep at hs
      split at hs
      · split at hs <;> cases hs
      · split at hs
        · cases hs
        · split at hs
          · cases hs
          · split at hs
            · split at hs
              · cases hs
              · injection hs with hs; subst hs; rfl
            · split at hs
              · cases hs
              · injection hs with hs; subst hs; rfl
theorem bodyF_go (r : Rd) (h : ¬ (r.wait.length : Int) < r.size) (r' : Rd) : bodyF r ≠ .wait r' := by
  unfold bodyF
  rw [if_neg h]
  exact doneF_go _ _
/-- A step that waits would go on the same with more bytes; one that does not goes the same. -/
theorem stepF_ext (r : Rd) (x : List UInt8) (h0 : r.nx = .body ∨ r.nx = .chunk → 0 ≤ r.size) :
    (∀ r', stepF r = .wait r' → stepF (r.ext x) = stepF (r'.ext x)) ∧ ((∀ r', stepF r ≠ .wait r') → stepF (r.ext x) = (stepF r).ext x) := by
  have hs : stepF (r.ext x) = (match r.nx with | .over => .wait (r.ext x) | .head => headF ((r.ext x).wait.length + 1) (r.ext x) | .body => bodyF (r.ext x) | .size => sizeF (r.ext x) | .chunk => chunkF (r.ext x)) := rfl
  cases hn : r.nx with
  | over =>
    have e : stepF r = .wait r := by unfold stepF; rw [hn]
    rw [e]
    exact ⟨fun r' h => (by injection h with h; rw [h]), fun h => absurd rfl (h r)⟩
  | head =>
    have e : stepF r = headF (r.wait.length + 1) r := by unfold stepF; rw [hn]
    rw [hn] at hs
    obtain ⟨i1, i2⟩ := headF_ext (r.wait.length + 1) ((r.ext x).wait.length + 1) r x (by omega) (by show (r.wait ++ x).length < (r.wait ++ x).length + 1; omega)
    rw [e]
    refine ⟨fun r' h => ?_, fun h => ?_⟩
    · obtain ⟨j1, j2⟩ := i1 r' h
      have hx := headF_nx _ _ _ h
      have e' : stepF (r'.ext x) = headF ((r'.ext x).wait.length + 1) (r'.ext x) := by
        unfold stepF
        rw [show (r'.ext x).nx = .head from hx.trans hn]
      rw [hs, e']
      show headF ((r.ext x).wait.length + 1) (r.ext x) = _
      rw [j2]
      have hl : (r'.ext x).wait.length = r'.wait.length + x.length := by simp [Rd.ext]
      have hl2 : (r.ext x).wait.length = r.wait.length + x.length := by simp [Rd.ext]
      exact headF_fuel _ _ _ (by omega) (by omega)
    · rw [hs]; exact i2 h
  | body =>
    have e : stepF r = bodyF r := by unfold stepF; rw [hn]
    rw [hn] at hs
    have h1 := h0 (.inl hn)
    rw [e]
    by_cases hc : (r.wait.length : Int) < r.size
    · have e2 : bodyF r = .wait r := by unfold bodyF; rw [if_pos hc]
      rw [e2]
      exact ⟨fun r' h => (by injection h with h; rw [h]), fun h => absurd rfl (h r)⟩
    · exact ⟨fun r' h => absurd h (bodyF_go r hc r'), fun _ => by rw [hs]; exact bodyF_ext r x h1 (by omega)⟩
  | size =>
    have e : stepF r = sizeF r := by unfold stepF; rw [hn]
    rw [hn] at hs
    rw [e]
    by_cases hc : ¬ (crlf r.wait < 0 ∨ 6 < crlf r.wait + 2) ∨ (6 : Int) ≤ r.wait.length
    · have h2 := sizeF_ext r x hc
      refine ⟨fun r' h => ?_, fun _ => by rw [hs]; exact h2⟩
      exfalso
      unfold sizeF at h
      split at h
      · rename_i hi
        rw [if_pos (hc.resolve_left (fun hn => hn hi))] at h
        cases h
      · split at h
        · cases h
        · split at h <;> cases h
    · have hi : crlf r.wait < 0 ∨ 6 < crlf r.wait + 2 := Classical.not_not.1 (fun h => hc (.inl h))
      have e2 : sizeF r = .wait r := by unfold sizeF; rw [if_pos hi, if_neg (fun h => hc (.inr h))]
      rw [e2]
      exact ⟨fun r' h => (by injection h with h; rw [h]), fun h => absurd rfl (h r)⟩
  | chunk =>
    have e : stepF r = chunkF r := by unfold stepF; rw [hn]
    rw [hn] at hs
    have h1 := h0 (.inr hn)
    rw [e]
    by_cases hc : (r.wait.length : Int) < r.size + 2
    · have e2 : chunkF r = .wait r := by unfold chunkF; rw [if_pos hc]
      rw [e2]
      exact ⟨fun r' h => (by injection h with h; rw [h]), fun h => absurd rfl (h r)⟩
    · refine ⟨fun r' h => ?_, fun _ => by rw [hs]; exact chunkF_ext r x h1 (by omega)⟩
      exfalso
      unfold chunkF at h
      rw [if_neg hc] at h
      split at h
      · split at h
        · exact doneF_go _ _ h
        · cases h
      · cases h
/-! ### The loop -/
def goF : Nat → Rd → List S53 × Option Rd
  | 0, r => (r.told, some { r with told := [] })
  | n + 1, r => match stepF r with
    | .wait r' => (r'.told, some { r' with told := [] })
    | .over l => (l, none)
    | .more r' => goF n r'
theorem goF_succ (n : Nat) (r : Rd) : goF (n + 1) r = (match stepF r with | .wait r' => (r'.told, some { r' with told := [] }) | .over l => (l, none) | .more r' => goF n r') := rfl
def Rd.mu (r : Rd) : Nat := 2 * r.wait.length + (if r.nx = .body then 1 else 0)
theorem doneF_mu {r r' : Rd} (h : doneF r = .more r') : r'.nx = .head ∧ r'.wait = r.wait := by
  unfold doneF at h
  split at h
  · injection h with h; subst h; exact ⟨rfl, rfl⟩
  · cases h
theorem behindF_mu {r r' : Rd} (h : behindF r = .more r') : r'.wait = r.wait := by
  unfold behindF at h
  split at h
  · cases h
  · split at h
    · split at h
      · injection h with h; subst h; rfl
      · cases h
    · split at h
      · exact (doneF_mu h).2
      · split at h
        · cases h
        · split at h
          · cases h
          · split at h
            · cases h
            · injection h with h; subst h; rfl
theorem headF_mu : ∀ (n : Nat) (r r' : Rd), headF n r = .more r' → r'.wait.length + 2 ≤ r.wait.length
  | 0, r, r', h => by cases h
  | n + 1, r, r', h => by
    rw [headF_succ] at h
    cases hs : headStep r with
    | stop st => rw [hs] at h; cases h
    | need => rw [hs] at h; cases h
    | next r1 =>
      rw [hs] at h
      have := headF_mu n r1 r' h
      have := headStep_next hs
      omega
    | behind r1 =>
      rw [hs] at h
      have h1 := behindF_mu h
      rw [h1]
      unfold headStep at hs
      split at hs
      · split at hs <;> cases hs
      · rename_i hi
        have hsz := crlf_size r.wait (by omega)
        split at hs
        · injection hs with hs; subst hs
          simp only [Rd.line, List.length_drop]; omega
        · split at hs
          · cases hs
          · split at hs
            · split at hs <;> cases hs
            · split at hs <;> cases hs
theorem stepF_mu {r r' : Rd} (h0 : r.nx = .body ∨ r.nx = .chunk → 0 ≤ r.size) (h : stepF r = .more r') : r'.mu < r.mu := by
  have hb : ∀ x : Rd, x.mu ≤ 2 * x.wait.length + 1 := fun x => by unfold Rd.mu; split <;> omega
  unfold stepF at h
  cases hn : r.nx with
  | over => rw [hn] at h; cases h
  | head =>
    rw [hn] at h
    replace h : headF (r.wait.length + 1) r = .more r' := h
    have h1 := headF_mu _ _ _ h
    have h2 := hb r'
    unfold Rd.mu at h2 ⊢
    omega
  | body =>
    rw [hn] at h
    replace h : bodyF r = .more r' := h
    have h1 : r'.nx = .head ∧ r'.wait.length ≤ r.wait.length := by
      unfold bodyF at h
      split at h
      · cases h
      · obtain ⟨a, b⟩ := doneF_mu h
        exact ⟨a, by rw [b]; simp⟩
    unfold Rd.mu
    rw [h1.1, hn]
    simp
    omega
  | size =>
    rw [hn] at h
    replace h : sizeF r = .more r' := h
    have h1 : r'.wait.length + 2 ≤ r.wait.length := by
      unfold sizeF at h
      split at h
      · split at h <;> cases h
      · rename_i hi
        have hsz := crlf_size r.wait (by omega)
        split at h
        · cases h
        · split at h
          · cases h
          · injection h with h; subst h
            simp only [Rd.cutLine, List.length_drop]; omega
    have h2 := hb r'
    unfold Rd.mu at h2 ⊢
    omega
  | chunk =>
    rw [hn] at h
    replace h : chunkF r = .more r' := h
    have hz := h0 (.inr hn)
    have h1 : r'.wait.length + 2 ≤ r.wait.length := by
      unfold chunkF at h
      split at h
      · cases h
      · split at h
        · split at h
          · rw [(doneF_mu h).2]
            simp only [Rd.chunked, List.length_drop]; omega
          · injection h with h; subst h
            simp only [Rd.chunked, List.length_drop]; omega
        · cases h
    have h2 := hb r'
    unfold Rd.mu at h2 ⊢
    omega
theorem atoiF_pos {l : ByteArray} {n : Int} (h : atoiF l = some n) (hv : visB 48 57 l = true) : 0 ≤ n := by
  unfold atoiF at h
  unfold visB at hv
  revert h hv
  generalize l.data.toList = xs
  intro h hv
  cases xs with
  | nil => simp [Lib.atoiAll] at h
  | cons c cs =>
    have hc : ¬ c.toNat = 45 := by
      simp only [List.all_cons, Bool.and_eq_true, outB, Bool.not_eq_true', Bool.or_eq_false_iff, decide_eq_false_iff_not] at hv
      omega
    simp only [Lib.atoiAll, hc, or_false, false_and, if_false, not_false_eq_true, true_and] at h
    split at h
    · rename_i v hq
      injection h with h
      subst h
      split at hq
      · cases hq
      · cases hq
      · split at hq
        · cases hq
        · injection hq with hq; omega
    · cases h
def Rd.ok (r : Rd) : Prop := r.nx = .body ∨ r.nx = .chunk → 0 ≤ r.size
theorem ok_head {r : Rd} (h : r.nx = .head ∨ r.nx = .size ∨ r.nx = .over) : r.ok := by
  intro hc
  rcases h with h | h | h <;> rcases hc with hc | hc <;> rw [h] at hc <;> cases hc
theorem behindF_ok {r r' : Rd} (h : behindF r = .more r') : r'.ok := by
  unfold behindF at h
  split at h
  · cases h
  · split at h
    · split at h
      · injection h with h; subst h; exact ok_head (.inr (.inl rfl))
      · cases h
    · split at h
      · exact ok_head (.inl (doneF_mu h).1)
      · split at h
        · cases h
        · rename_i hv
          split at h
          · cases h
          · rename_i n hn
            split at h
            · cases h
            · injection h with h; subst h
              intro _
              refine atoiF_pos hn ?_
              simp only [Bool.or_eq_true, Bool.not_eq_true', not_or, Bool.not_eq_false] at hv
              exact hv.2
theorem headF_ok : ∀ (n : Nat) (r r' : Rd), headF n r = .more r' → r'.ok
  | 0, r, r', h => by cases h
  | n + 1, r, r', h => by
    rw [headF_succ] at h
    cases hs : headStep r with
    | stop st => rw [hs] at h; cases h
    | need => rw [hs] at h; cases h
    | next r1 => rw [hs] at h; exact headF_ok n r1 r' h
    | behind r1 => rw [hs] at h; exact behindF_ok h
theorem stepF_ok {r r' : Rd} (h : stepF r = .more r') : r'.ok := by
  unfold stepF at h
  cases hn : r.nx with
  | over => rw [hn] at h; cases h
  | head =>
    rw [hn] at h
    exact headF_ok _ _ _ h
  | body =>
    rw [hn] at h
    replace h : bodyF r = .more r' := h
    unfold bodyF at h
    split at h
    · cases h
    · exact ok_head (.inl (doneF_mu h).1)
  | size =>
    rw [hn] at h
    replace h : sizeF r = .more r' := h
    unfold sizeF at h
    split at h
    · split at h <;> cases h
    · rename_i hi
      have hsz := crlf_size r.wait (by omega)
      split at h
      · cases h
      · rename_i n hx
        split at h
        · cases h
        · injection h with h; subst h
          intro _
          exact (hexF_range (by rw [List.length_take]; omega) hx).1
  | chunk =>
    rw [hn] at h
    replace h : chunkF r = .more r' := h
    unfold chunkF at h
    split at h
    · cases h
    · split at h
      · split at h
        · exact ok_head (.inl (doneF_mu h).1)
        · injection h with h; subst h
          exact ok_head (.inr (.inl rfl))
      · cases h
theorem goF_fuel : ∀ (n m : Nat) (r : Rd), r.ok → r.mu < n → r.mu < m → goF n r = goF m r
  | 0, _, _, _, h, _ => absurd h (by omega)
  | _ + 1, 0, _, _, _, h => absurd h (by omega)
  | n + 1, m + 1, r, ho, h1, h2 => by
    rw [goF_succ, goF_succ]
    cases hs : stepF r with
    | wait r' => rfl
    | over l => rfl
    | more r' =>
      have := stepF_mu ho hs
      exact goF_fuel n m r' (stepF_ok hs) (by omega) (by omega)
theorem goF_pre : ∀ (n : Nat) (r : Rd) (t : List S53), goF n (r.pre t) = (t ++ (goF n r).1, (goF n r).2)
  | 0, r, t => rfl
  | n + 1, r, t => by
    rw [goF_succ, goF_succ, stepF_pre]
    cases stepF r with
    | wait r' => rfl
    | over l => rfl
    | more r' => exact goF_pre n r' t
theorem headF_size : ∀ (n : Nat) (r r' : Rd), headF n r = .wait r' → r'.wait.length ≤ r.wait.length
  | 0, r, r', h => by injection h with h; rw [h]; exact Nat.le_refl _
  | n + 1, r, r', h => by
    rw [headF_succ] at h
    cases hs : headStep r with
    | stop st => rw [hs] at h; cases h
    | need => rw [hs] at h; injection h with h; rw [h]; exact Nat.le_refl _
    | behind r1 => rw [hs] at h; exact absurd h (behindF_go r1 r')
    | next r1 =>
      rw [hs] at h
      have := headF_size n r1 r' h
      have := headStep_next hs
      omega
theorem stepF_wait {r r' : Rd} (ho : r.ok) (h : stepF r = .wait r') : r'.mu ≤ r.mu ∧ r'.ok := by
  unfold stepF at h
  cases hn : r.nx with
  | over => rw [hn] at h; injection h with h; subst h; exact ⟨Nat.le_refl _, ho⟩
  | head =>
    rw [hn] at h
    have h1 := headF_size _ _ _ h
    have h2 := (headF_nx _ _ _ h).trans hn
    refine ⟨?_, ok_head (.inl h2)⟩
    unfold Rd.mu
    rw [h2, hn]
    simp
    omega
  | body =>
    rw [hn] at h
    replace h : bodyF r = .wait r' := h
    by_cases hc : (r.wait.length : Int) < r.size
    · unfold bodyF at h; rw [if_pos hc] at h; injection h with h; subst h; exact ⟨Nat.le_refl _, ho⟩
    · exact absurd h (bodyF_go r hc r')
  | size =>
    rw [hn] at h
    replace h : sizeF r = .wait r' := h
    unfold sizeF at h
    split at h
    · split at h
      · cases h
      · injection h with h; subst h; exact ⟨Nat.le_refl _, ho⟩
    · split at h
      · cases h
      · split at h <;> cases h
  | chunk =>
    rw [hn] at h
    replace h : chunkF r = .wait r' := h
    unfold chunkF at h
    split at h
    · injection h with h; subst h; exact ⟨Nat.le_refl _, ho⟩
    · split at h
      · split at h
        · exact absurd h (doneF_go _ _)
        · cases h
      · cases h
theorem ext_mu (r : Rd) (x : List UInt8) : (r.ext x).mu = r.mu + 2 * x.length := by
  unfold Rd.mu
  show 2 * (r.wait ++ x).length + (if r.nx = .body then 1 else 0) = _
  rw [List.length_append]; omega
theorem ext_ok {r : Rd} (h : r.ok) (x : List UInt8) : (r.ext x).ok := h
theorem goF_out : ∀ (n : Nat) (r r' : Rd), r.ok → (goF n r).2 = some r' → r'.mu ≤ r.mu ∧ r'.ok
  | 0, r, r', ho, h => by
    simp only [goF, Option.some.injEq] at h
    subst h
    exact ⟨Nat.le_refl _, ho⟩
  | n + 1, r, r', ho, h => by
    rw [goF_succ] at h
    cases hs : stepF r with
    | over l => rw [hs] at h; cases h
    | wait r1 =>
      rw [hs] at h
      simp only [Option.some.injEq] at h
      subst h
      have hw : r1.mu ≤ r.mu ∧ r1.ok := stepF_wait ho hs
      exact hw
    | more r1 =>
      rw [hs] at h
      have := stepF_mu ho hs
      obtain ⟨a, b⟩ := goF_out n r1 r' (stepF_ok hs) h
      exact ⟨by omega, b⟩
/-- CONFLUENCE: the loop over more bytes is the loop, and the loop over what it left with the bytes behind. -/
theorem goF_ext : ∀ (n m : Nat) (r : Rd) (x : List UInt8), r.ok → r.mu < n → (r.ext x).mu < m →
    goF m (r.ext x) = match (goF n r).2 with
      | none => goF n r
      | some r' => ((goF n r).1 ++ (goF m (r'.ext x)).1, (goF m (r'.ext x)).2)
  | 0, _, _, _, _, h, _ => absurd h (by omega)
  | _ + 1, 0, _, _, _, _, h => absurd h (by omega)
  | n + 1, m + 1, r, x, ho, h1, h2 => by
    obtain ⟨e1, e2⟩ := stepF_ext r x ho
    rw [goF_succ n r]
    cases hs : stepF r with
    | over l =>
      have := e2 (fun r' h => by rw [hs] at h; cases h)
      rw [goF_succ m, this, hs]
      rfl
    | wait r' =>
      have := e1 r' hs
      have hp : Rd.pre r'.told (({ r' with told := [] } : Rd).ext x) = r'.ext x := by
        show ({ (r'.ext x) with told := r'.told ++ [] } : Rd) = _
        rw [List.append_nil]; rfl
      show goF (m + 1) (r.ext x) = (r'.told ++ (goF (m + 1) (({ r' with told := [] } : Rd).ext x)).1, (goF (m + 1) (({ r' with told := [] } : Rd).ext x)).2)
      rw [← goF_pre, hp, goF_succ, goF_succ, this]
    | more r1 =>
      have he := e2 (fun r' h => by rw [hs] at h; cases h)
      have m1 := stepF_mu ho hs
      have m2 := ext_mu r x
      have m3 := ext_mu r1 x
      rw [goF_succ m, he, hs]
      show goF m (r1.ext x) = match (goF n r1).2 with | none => goF n r1 | some r' => _
      rw [goF_ext n m r1 x (stepF_ok hs) (by omega) (by omega)]
      cases hg : (goF n r1).2 with
      | none => rfl
      | some r' =>
        obtain ⟨g1, g2⟩ := goF_out n r1 r' (stepF_ok hs) hg
        have m4 := ext_mu r' x
        show ((goF n r1).1 ++ (goF m (r'.ext x)).1, (goF m (r'.ext x)).2) = ((goF n r1).1 ++ (goF (m + 1) (r'.ext x)).1, (goF (m + 1) (r'.ext x)).2)
        rw [goF_fuel m (m + 1) (r'.ext x) g2 (by omega) (by omega)]
end Go.Proofs.YtafhkpnmolfjeaaGreatDoor.Rq

/-! ## RqM: Plain law: what holds of a reader along the loop; feeding in pieces. -/
set_option linter.unusedVariables false
set_option linter.unusedSimpArgs false
namespace Go.Proofs.YtafhkpnmolfjeaaGreatDoor.Rq
open Go.RowKit Go.Proofs.YtafhkpnmolfjeaaGreatDoorW.PrintWords Go.Proofs.YtafhkpnmolfjeaaGreatDoor.PRequestBack

/-- What holds of a reader, whatever its state; N: a bound of all that came; K: of what is told. -/
structure Inv0 (N K : Nat) (r : Rd) : Prop where
  used0 : 0 ≤ r.used
  used : r.used + r.wait.length ≤ N
  size0 : 0 ≤ r.size
  size : r.size ≤ 1000000
  body : r.body.length + r.wait.length ≤ N
  told : r.told.length + r.mu ≤ K
  head0 : 0 ≤ r.head
  head : r.head ≤ 2048
  lines0 : 0 ≤ r.lines
  lines : r.lines ≤ 34
  f2 : r.q.f2.length ≤ r.lines.toNat
  vals : ∀ p ∈ r.q.f2, p.f1.size ≤ 4294967281
structure Inv (N K : Nat) (r : Rd) : Prop where
  base : Inv0 N K r
  lines33 : r.nx = .head → r.lines ≤ 33
  live : r.nx ≠ .over
theorem Inv0.toH {N K : Nat} (hN : N ≤ 1000000000) (hK : K ≤ 100000000000) {r : Rd} (h : Inv0 N K r) : HInv r :=
  ⟨h.used0, by have := h.used; omega, by have := h.used; have := h.used0; omega, h.head0, h.head, h.lines0, h.lines, h.f2, h.vals, by have := h.told; omega⟩
theorem Inv0.toB {N K : Nat} (hN : N ≤ 1000000000) (hK : K ≤ 100000000000) {r : Rd} (h : Inv0 N K r) : BInv r :=
  ⟨h.used0, by have := h.used; omega, by have := h.used; have := h.used0; omega, h.size0, h.size, by have := h.body; omega, by have := h.told; omega⟩
theorem Inv.step {N K : Nat} (hN : N ≤ 1000000000) (hK : K ≤ 100000000000) {r : Rd} (h : Inv N K r) : Step r (stepF r) := by
  have hx := h.live
  unfold stepF
  cases hn : r.nx with
  | over => exact absurd hn hx
  | head => exact Step.head r hn (h.base.toH hN hK)
  | body => exact Step.body r hn (h.base.toB hN hK)
  | size => exact Step.size r hn (h.base.toB hN hK)
  | chunk => exact Step.chunk r hn (h.base.toB hN hK)
theorem mu_le (r : Rd) : r.mu ≤ 2 * r.wait.length + 1 := by unfold Rd.mu; split <;> omega
theorem le_mu (r : Rd) : 2 * r.wait.length ≤ r.mu := by unfold Rd.mu; omega
theorem mu_of {r : Rd} (h : r.nx ≠ .body) : r.mu = 2 * r.wait.length := by unfold Rd.mu; rw [if_neg h]; rfl
theorem Inv0.line {N K : Nat} {r : Rd} (h : Inv0 N K r) (hl : r.lines ≤ 33) (hi : ¬ (crlf r.wait < 0 ∨ 2048 - r.head < crlf r.wait + 2)) :
    Inv0 N K (r.line (crlf r.wait).toNat) ∧ r.told.length + 1 + 2 * (r.line (crlf r.wait).toNat).wait.length ≤ K := by
  have hs := crlf_size r.wait (by omega)
  have hm : (r.line (crlf r.wait).toNat).mu + 4 ≤ r.mu := by
    have e : (r.line (crlf r.wait).toNat).wait.length = r.wait.length - ((crlf r.wait).toNat + 2) := by simp only [Rd.line, List.length_drop]
    unfold Rd.mu
    rw [e]
    show 2 * (r.wait.length - ((crlf r.wait).toNat + 2)) + (if r.nx = .body then 1 else 0) + 4 ≤ 2 * r.wait.length + (if r.nx = .body then 1 else 0)
    omega
  obtain ⟨h1, h2, h3, h4, h5, h6, h7, h8, h9, h10, h11, h12⟩ := h
  have hl2 := le_mu (r.line (crlf r.wait).toNat)
  refine ⟨⟨?_, ?_, h3, h4, ?_, ?_, ?_, ?_, ?_, ?_, ?_, h12⟩, ?_⟩
  · simp only [Rd.line]; omega
  · simp only [Rd.line, List.length_drop]; omega
  · simp only [Rd.line, List.length_drop]; omega
  · show r.told.length + _ ≤ K; omega
  · simp only [Rd.line]; omega
  · simp only [Rd.line]; omega
  · simp only [Rd.line]; omega
  · simp only [Rd.line]; omega
  · simp only [Rd.line]; omega
  · omega
theorem Inv0.done {N K : Nat} {r r' : Rd} (h : Inv0 N K r) (ht : r.told.length + 1 + 2 * r.wait.length ≤ K) (hd : doneF r = .more r') : Inv N K r' := by
  unfold doneF at hd
  split at hd
  · injection hd with hd
    subst hd
    have hu := h.used
    have hu0 := h.used0
    refine ⟨⟨Int.le_refl _, ?_, h.size0, h.size, ?_, ?_, Int.le_refl _, (show (0 : Int) ≤ 2048 by decide), Int.le_refl _, (show (0 : Int) ≤ 34 by decide), Nat.le_refl _, (fun p hp => by cases hp)⟩, fun _ => (show (0 : Int) ≤ 33 by decide), (fun hc => by cases hc)⟩
    · show (0 : Int) + (r.wait.length : Int) ≤ N; omega
    · show ([] : List UInt8).length + r.wait.length ≤ N
      simp only [List.length_nil]; omega
    · show (r.told ++ [_]).length + (2 * r.wait.length + 0) ≤ K
      rw [List.length_append, List.length_singleton]; omega
  · cases hd
theorem Inv0.kept {N K : Nat} {r : Rd} (h : Inv0 N K r) : Inv0 N K r.kept := by
  obtain ⟨h1, h2, h3, h4, h5, h6, h7, h8, h9, h10, h11, h12⟩ := h
  exact ⟨h1, h2, h3, h4, h5, h6, h7, h8, h9, h10, h11, h12⟩
theorem Inv0.behind {N K : Nat} {r r' : Rd} (h : Inv0 N K r) (ht : r.told.length + 1 + 2 * r.wait.length ≤ K) (hd : behindF r = .more r') : Inv N K r' := by
  have hk := h.kept
  have htk : r.kept.told.length + 1 + 2 * r.kept.wait.length ≤ K := ht
  unfold behindF at hd
  split at hd
  · cases hd
  · split at hd
    · split at hd
      · injection hd with hd; subst hd
        obtain ⟨h1, h2, h3, h4, h5, h6, h7, h8, h9, h10, h11, h12⟩ := hk
        exact ⟨⟨h1, h2, h3, h4, h5, (by show r.told.length + (2 * r.wait.length + 0) ≤ K; omega), h7, h8, h9, h10, h11, h12⟩, (fun hc => by cases hc), (fun hc => by cases hc)⟩
      · cases hd
    · split at hd
      · exact hk.done htk hd
      · split at hd
        · cases hd
        · rename_i hv
          split at hd
          · cases hd
          · rename_i n hn
            split at hd
            · cases hd
            · rename_i hle
              injection hd with hd; subst hd
              have hp : 0 ≤ n := atoiF_pos hn (by simp only [Bool.or_eq_true, Bool.not_eq_true', not_or, Bool.not_eq_false] at hv; exact hv.2)
              obtain ⟨h1, h2, h3, h4, h5, h6, h7, h8, h9, h10, h11, h12⟩ := hk
              exact ⟨⟨h1, h2, hp, (by show n ≤ 1000000; omega), h5, (by show r.told.length + (2 * r.wait.length + 1) ≤ K; omega), h7, h8, h9, h10, h11, h12⟩, (fun hc => by cases hc), (fun hc => by cases hc)⟩
theorem take_size (r : Rd) {N K : Nat} (hN : N ≤ 1000000000) (h : Inv0 N K r) : (str (r.wait.take (crlf r.wait).toNat)).size ≤ 4294967281 := by
  rw [str_size, List.length_take]
  have := h.used; have := h.used0
  omega
theorem Inv0.next {N K : Nat} (hN : N ≤ 1000000000) {r r' : Rd} (h : Inv0 N K r) (hl : r.lines ≤ 33) (hd : headStep r = .next r') : Inv0 N K r' ∧ r'.lines ≤ 33 ∧ r'.told = r.told ∧ r'.nx = r.nx := by
  unfold headStep at hd
  split at hd
  · split at hd <;> cases hd
  · rename_i hi
    obtain ⟨hk, _⟩ := h.line hl hi
    have hsz := take_size r hN h
    split at hd
    · cases hd
    · split at hd
      · cases hd
      · rename_i h33
        obtain ⟨h1, h2, h3, h4, h5, h6, h7, h8, h9, h10, h11, h12⟩ := hk
        have hlr : (r.line (crlf r.wait).toNat).lines = r.lines + 1 := rfl
        split at hd
        · split at hd
          · cases hd
          · injection hd with hd; subst hd
            exact ⟨⟨h1, h2, h3, h4, h5, h6, h7, h8, h9, h10, h11, h12⟩, (by show r.lines + 1 ≤ 33; omega), rfl, rfl⟩
        · split at hd
          · cases hd
          · rename_i p hp
            injection hd with hd; subst hd
            refine ⟨⟨h1, h2, h3, h4, h5, h6, h7, h8, h9, h10, ?_, ?_⟩, (by show r.lines + 1 ≤ 33; omega), rfl, rfl⟩
            · show (r.q.f2 ++ [p]).length ≤ (r.lines + 1).toNat
              have := h.f2; have := h.lines0
              rw [List.length_append, List.length_singleton]; omega
            · intro x hx
              rcases List.mem_append.1 hx with hx | hx
              · exact h.vals x hx
              · rw [List.mem_singleton.1 hx]; exact headerF_size hp hsz
theorem Inv0.headBehind {N K : Nat} {r r' : Rd} (h : Inv0 N K r) (hl : r.lines ≤ 33) (hd : headStep r = .behind r') : Inv0 N K r' ∧ r'.told.length + 1 + 2 * r'.wait.length ≤ K := by
  unfold headStep at hd
  split at hd
  · split at hd <;> cases hd
  · rename_i hi
    have hk := h.line hl hi
    split at hd
    · injection hd with hd; subst hd; exact hk
    · split at hd
      · cases hd
      · split at hd
        · split at hd <;> cases hd
        · split at hd <;> cases hd
theorem Inv0.headMore {N K : Nat} (hN : N ≤ 1000000000) : ∀ (n : Nat) (r r' : Rd), Inv0 N K r → r.lines ≤ 33 → headF n r = .more r' → Inv N K r'
  | 0, r, r', _, _, hd => by cases hd
  | n + 1, r, r', h, hl, hd => by
    rw [headF_succ] at hd
    cases hs : headStep r with
    | stop st => rw [hs] at hd; cases hd
    | need => rw [hs] at hd; cases hd
    | next r1 =>
      rw [hs] at hd
      obtain ⟨a, b, _, _⟩ := h.next hN hl hs
      exact Inv0.headMore hN n r1 r' a b hd
    | behind r1 =>
      rw [hs] at hd
      obtain ⟨a, b⟩ := h.headBehind hl hs
      exact a.behind b hd
theorem Inv0.headWait {N K : Nat} (hN : N ≤ 1000000000) : ∀ (n : Nat) (r r' : Rd), Inv0 N K r → r.lines ≤ 33 → headF n r = .wait r' → Inv0 N K r' ∧ r'.lines ≤ 33 ∧ r'.told = r.told ∧ r'.nx = r.nx
  | 0, r, r', h, hl, hd => by injection hd with hd; subst hd; exact ⟨h, hl, rfl, rfl⟩
  | n + 1, r, r', h, hl, hd => by
    rw [headF_succ] at hd
    cases hs : headStep r with
    | stop st => rw [hs] at hd; cases hd
    | need => rw [hs] at hd; injection hd with hd; subst hd; exact ⟨h, hl, rfl, rfl⟩
    | next r1 =>
      rw [hs] at hd
      obtain ⟨a, b, c, d⟩ := h.next hN hl hs
      obtain ⟨a', b', c', d'⟩ := Inv0.headWait hN n r1 r' a b hd
      exact ⟨a', b', c'.trans c, d'.trans d⟩
    | behind r1 => rw [hs] at hd; exact absurd hd (behindF_go r1 r')
theorem Inv.more {N K : Nat} (hN : N ≤ 1000000000) {r r' : Rd} (h : Inv N K r) (hd : stepF r = .more r') : Inv N K r' := by
  obtain ⟨hb, h33, hx⟩ := h
  unfold stepF at hd
  cases hn : r.nx with
  | over => exact absurd hn hx
  | head =>
    rw [hn] at hd
    exact hb.headMore hN _ r r' (h33 hn) hd
  | body =>
    rw [hn] at hd
    replace hd : bodyF r = .more r' := hd
    unfold bodyF at hd
    split at hd
    · cases hd
    · rename_i hc
      have hm : r.mu = 2 * r.wait.length + 1 := by unfold Rd.mu; rw [if_pos hn]
      obtain ⟨h1, h2, h3, h4, h5, h6, h7, h8, h9, h10, h11, h12⟩ := hb
      refine Inv0.done (r := { r with wait := r.wait.drop r.size.toNat, used := r.used + r.size, body := r.body ++ r.wait.take r.size.toNat }) ⟨?_, ?_, h3, h4, ?_, ?_, h7, h8, h9, h10, h11, h12⟩ ?_ hd
      · show 0 ≤ r.used + r.size; omega
      · show r.used + r.size + ((r.wait.drop r.size.toNat).length : Int) ≤ N; rw [List.length_drop]; omega
      · show (r.body ++ r.wait.take r.size.toNat).length + (r.wait.drop r.size.toNat).length ≤ N
        rw [List.length_append, List.length_take, List.length_drop]; omega
      · have := mu_le { r with wait := r.wait.drop r.size.toNat, used := r.used + r.size, body := r.body ++ r.wait.take r.size.toNat }
        simp only [List.length_drop] at this
        show r.told.length + _ ≤ K; omega
      · show r.told.length + 1 + 2 * (r.wait.drop r.size.toNat).length ≤ K
        rw [List.length_drop]; omega
  | size =>
    rw [hn] at hd
    replace hd : sizeF r = .more r' := hd
    have hm := mu_of (r := r) (by rw [hn]; decide)
    unfold sizeF at hd
    split at hd
    · split at hd <;> cases hd
    · rename_i hi
      have hsz := crlf_size r.wait (by omega)
      split at hd
      · cases hd
      · rename_i n hx
        split at hd
        · cases hd
        · rename_i hle
          injection hd with hd; subst hd
          have hp := (hexF_range (by rw [List.length_take]; omega) hx).1
          obtain ⟨h1, h2, h3, h4, h5, h6, h7, h8, h9, h10, h11, h12⟩ := hb
          refine ⟨⟨?_, ?_, hp, (by show n ≤ 1000000; omega), ?_, ?_, h7, h8, h9, h10, h11, h12⟩, (fun hc => by cases hc), (fun hc => by cases hc)⟩
          · simp only [Rd.cutLine]; omega
          · simp only [Rd.cutLine, List.length_drop]; omega
          · simp only [Rd.cutLine, List.length_drop]; omega
          · show r.told.length + (2 * (r.wait.drop ((crlf r.wait).toNat + 2)).length + 0) ≤ K
            rw [List.length_drop]; omega
  | chunk =>
    rw [hn] at hd
    replace hd : chunkF r = .more r' := hd
    have hm := mu_of (r := r) (by rw [hn]; decide)
    unfold chunkF at hd
    split at hd
    · cases hd
    · rename_i hc
      obtain ⟨h1, h2, h3, h4, h5, h6, h7, h8, h9, h10, h11, h12⟩ := hb
      have hb' : Inv0 N K r.chunked := by
        refine ⟨?_, ?_, h3, h4, ?_, ?_, h7, h8, h9, h10, h11, h12⟩
        · simp only [Rd.chunked]; omega
        · simp only [Rd.chunked, List.length_drop]; omega
        · simp only [Rd.chunked, List.length_append, List.length_take, List.length_drop]; omega
        · have := mu_le r.chunked
          have e : r.chunked.wait.length = r.wait.length - (r.size.toNat + 2) := by simp only [Rd.chunked, List.length_drop]
          show r.told.length + r.chunked.mu ≤ K; omega
      split at hd
      · split at hd
        · refine hb'.done ?_ hd
          show r.told.length + 1 + 2 * (r.wait.drop (r.size.toNat + 2)).length ≤ K
          rw [List.length_drop]; omega
        · injection hd with hd; subst hd
          obtain ⟨h1, h2, h3, h4, h5, h6, h7, h8, h9, h10, h11, h12⟩ := hb'
          refine ⟨⟨h1, h2, h3, h4, h5, ?_, h7, h8, h9, h10, h11, h12⟩, (fun hc => by cases hc), (fun hc => by cases hc)⟩
          have := le_mu r.chunked
          show r.chunked.told.length + (2 * r.chunked.wait.length + 0) ≤ K
          omega
      · cases hd
theorem Inv.wait {N K : Nat} (hN : N ≤ 1000000000) {r r' : Rd} (h : Inv N K r) (hd : stepF r = .wait r') : Inv N K r' ∧ r'.told = r.told := by
  obtain ⟨hb, h33, hx⟩ := h
  have hself : stepF r = .wait r → Inv N K r' ∧ r'.told = r.told := fun he => by
    rw [he] at hd; injection hd with hd; subst hd; exact ⟨⟨hb, h33, hx⟩, rfl⟩
  cases hn : r.nx with
  | over => exact absurd hn hx
  | head =>
    unfold stepF at hd
    rw [hn] at hd
    obtain ⟨a, b, c, d⟩ := hb.headWait hN _ r r' (h33 hn) hd
    exact ⟨⟨a, fun _ => b, by rw [d]; exact hx⟩, c⟩
  | body =>
    have e : stepF r = bodyF r := by unfold stepF; rw [hn]
    rw [e] at hd hself
    by_cases hc : (r.wait.length : Int) < r.size
    · exact hself (by unfold bodyF; rw [if_pos hc])
    · exact absurd hd (bodyF_go r hc r')
  | size =>
    have e : stepF r = sizeF r := by unfold stepF; rw [hn]
    rw [e] at hd hself
    have hd' := hd
    unfold sizeF at hd'
    split at hd'
    · split at hd'
      · cases hd'
      · exact hself (hd'.symm ▸ hd)
    · split at hd'
      · cases hd'
      · split at hd' <;> cases hd'
  | chunk =>
    have e : stepF r = chunkF r := by unfold stepF; rw [hn]
    rw [e] at hd hself
    have hd' := hd
    unfold chunkF at hd'
    split at hd'
    · rename_i hc
      exact hself (by unfold chunkF; rw [if_pos hc])
    · split at hd'
      · split at hd'
        · exact absurd hd' (doneF_go _ _)
        · cases hd'
      · cases hd'
theorem Inv.ok {N K : Nat} {r : Rd} (h : Inv N K r) : r.ok := fun _ => h.base.size0
theorem Inv.told0 {N K : Nat} {r : Rd} (h : Inv N K r) : Inv N (2 * N + 1) { r with told := [] } := by
  obtain ⟨⟨h1, h2, h3, h4, h5, h6, h7, h8, h9, h10, h11, h12⟩, h33, hx⟩ := h
  refine ⟨⟨h1, h2, h3, h4, h5, ?_, h7, h8, h9, h10, h11, h12⟩, h33, hx⟩
  have := mu_le { r with told := [] }
  simp only at this
  show ([] : List S53).length + _ ≤ _
  simp only [List.length_nil]
  omega
/-- The loop runs, and says what goF says. -/
theorem Inv.run {N K : Nat} (hN : N ≤ 1000000000) (hK : K ≤ 100000000000) : ∀ (n : Nat) (r : Rd), Inv N K r → r.mu < n → Run n r (goF n r).1 (goF n r).2 ∧ ∀ r', (goF n r).2 = some r' → Inv N (2 * N + 1) r' ∧ r'.told = []
  | 0, _, _, h => absurd h (by omega)
  | n + 1, r, h, hm => by
    have hs := h.step hN hK
    rw [goF_succ]
    cases he : stepF r with
    | wait r' =>
      rw [he] at hs
      obtain ⟨a, b⟩ := h.wait hN he
      refine ⟨Run.wait n hs, fun r1 h1 => ?_⟩
      simp only [Option.some.injEq] at h1
      subst h1
      exact ⟨a.told0, rfl⟩
    | over l =>
      rw [he] at hs
      exact ⟨Run.over n hs, fun r1 h1 => by cases h1⟩
    | more r' =>
      rw [he] at hs
      have hmu := stepF_mu h.ok he
      obtain ⟨a, b⟩ := Inv.run hN hK n r' (h.more hN he) (by omega)
      exact ⟨Run.more hs a, b⟩
/-- What a reader between two calls satisfies; N bytes came at most. -/
def Fd (N : Nat) (r : Rd) : Prop := Inv N (2 * N + 1) r ∧ r.told = []
theorem Fd.new : Fd 0 Rd.new := ⟨⟨⟨by decide, by decide, by decide, by decide, by decide, by decide, by decide, by decide, by decide, by decide, by decide, (fun p hp => by cases hp)⟩, fun _ => by decide, by decide⟩, rfl⟩
theorem Fd.ext {N : Nat} {r : Rd} (h : Fd N r) (x : List UInt8) : Inv (N + x.length) (2 * (N + x.length) + 1) (r.ext x) := by
  obtain ⟨⟨⟨h1, h2, h3, h4, h5, h6, h7, h8, h9, h10, h11, h12⟩, h33, hx⟩, ht⟩ := h
  refine ⟨⟨h1, ?_, h3, h4, ?_, ?_, h7, h8, h9, h10, h11, h12⟩, h33, hx⟩
  · show r.used + ((r.wait ++ x).length : Nat) ≤ _; rw [List.length_append]; omega
  · show r.body.length + (r.wait ++ x).length ≤ _; rw [List.length_append]; omega
  · have := ext_mu r x
    show r.told.length + _ ≤ _
    rw [this]
    omega
/-- One call of Feed. -/
def feedF (r : Rd) (x : List UInt8) : List S53 × Option Rd := goF ((r.ext x).mu + 1) (r.ext x)
theorem Fd.feed {N : Nat} {r : Rd} (h : Fd N r) (x : List UInt8) (hN : N + x.length ≤ 1000000000) :
    Run ((r.ext x).mu + 1) (r.ext x) (feedF r x).1 (feedF r x).2 ∧ ∀ r', (feedF r x).2 = some r' → Fd (N + x.length) r' :=
  Inv.run hN (by omega) _ _ (h.ext x) (Nat.lt_succ_self _)
theorem Fd.mono {N M : Nat} {r : Rd} (h : Fd N r) (hm : N ≤ M) : Fd M r := by
  obtain ⟨⟨⟨h1, h2, h3, h4, h5, h6, h7, h8, h9, h10, h11, h12⟩, h33, hx⟩, ht⟩ := h
  exact ⟨⟨⟨h1, by omega, h3, h4, by omega, by omega, h7, h8, h9, h10, h11, h12⟩, h33, hx⟩, ht⟩
/-- A call of Feed at a reader that may be over. -/
def feedS : Option Rd → List UInt8 → List S53 × Option Rd
  | none, _ => ([], none)
  | some r, x => feedF r x
def FdS (N : Nat) : Option Rd → Prop
  | none => True
  | some r => Fd N r
theorem FdS.feed {N : Nat} {s : Option Rd} (h : FdS N s) (x : List UInt8) (hN : N + x.length ≤ 1000000000) : FdS (N + x.length) (feedS s x).2 := by
  cases s with
  | none => trivial
  | some r =>
    have := (Fd.feed h x hN).2
    show FdS _ (feedF r x).2
    cases hq : (feedF r x).2 with
    | none => trivial
    | some r' => exact this r' hq
theorem feedS_append {N : Nat} {s : Option Rd} (h : FdS N s) (x y : List UInt8) :
    feedS s (x ++ y) = ((feedS s x).1 ++ (feedS (feedS s x).2 y).1, (feedS (feedS s x).2 y).2) := by
  cases s with
  | none => rfl
  | some r =>
    have ho : (r.ext x).ok := (Fd.ext h x).ok
    have he : r.ext (x ++ y) = (r.ext x).ext y := by unfold Rd.ext; simp [List.append_assoc]
    show feedF r (x ++ y) = ((feedF r x).1 ++ (feedS (feedF r x).2 y).1, (feedS (feedF r x).2 y).2)
    unfold feedF
    rw [he, goF_ext ((r.ext x).mu + 1) _ (r.ext x) y ho (Nat.lt_succ_self _) (Nat.lt_succ_self _)]
    cases hg : (goF ((r.ext x).mu + 1) (r.ext x)).2 with
    | none =>
      show goF _ _ = _
      rw [← hg]
      show _ = ((goF ((r.ext x).mu + 1) (r.ext x)).1 ++ (feedS (goF ((r.ext x).mu + 1) (r.ext x)).2 y).1, (feedS (goF ((r.ext x).mu + 1) (r.ext x)).2 y).2)
      rw [hg]
      show _ = ((goF ((r.ext x).mu + 1) (r.ext x)).1 ++ [], none)
      rw [List.append_nil, ← hg]
    | some r1 =>
      obtain ⟨g1, g2⟩ := goF_out _ _ _ ho hg
      have m1 := ext_mu r1 y
      have m2 := ext_mu (r.ext x) y
      show ((goF ((r.ext x).mu + 1) (r.ext x)).1 ++ (goF (((r.ext x).ext y).mu + 1) (r1.ext y)).1, (goF (((r.ext x).ext y).mu + 1) (r1.ext y)).2) = ((goF ((r.ext x).mu + 1) (r.ext x)).1 ++ (feedF r1 y).1, (feedF r1 y).2)
      unfold feedF
      rw [goF_fuel (((r.ext x).ext y).mu + 1) ((r1.ext y).mu + 1) (r1.ext y) g2 (by omega) (by omega)]
/-- Byte by byte. -/
def feedB : Option Rd → List UInt8 → List S53 × Option Rd
  | s, [] => ([], s)
  | s, b :: l => ((feedS s [b]).1 ++ (feedB (feedS s [b]).2 l).1, (feedB (feedS s [b]).2 l).2)
theorem feedB_snoc : ∀ (l : List UInt8) (s : Option Rd) (b : UInt8), feedB s (l ++ [b]) = ((feedB s l).1 ++ (feedS (feedB s l).2 [b]).1, (feedS (feedB s l).2 [b]).2)
  | [], s, b => by simp [feedB]
  | c :: l, s, b => by
    show ((feedS s [c]).1 ++ (feedB (feedS s [c]).2 (l ++ [b])).1, (feedB (feedS s [c]).2 (l ++ [b])).2) = _
    rw [feedB_snoc l]
    simp [feedB, List.append_assoc]
theorem feedB_all : ∀ (l : List UInt8) (N : Nat) (s : Option Rd) (b : UInt8), FdS N s → N + (b :: l).length ≤ 1000000000 → feedB s (b :: l) = feedS s (b :: l)
  | [], N, s, b, h, hN => by simp [feedB]
  | c :: l, N, s, b, h, hN => by
    show ((feedS s [b]).1 ++ (feedB (feedS s [b]).2 (c :: l)).1, (feedB (feedS s [b]).2 (c :: l)).2) = _
    simp only [List.length_cons] at hN
    rw [feedB_all l (N + 1) (feedS s [b]).2 c (h.feed [b] (by simp only [List.length_singleton]; omega)) (by simp only [List.length_cons]; omega)]
    have := feedS_append h [b] (c :: l)
    rw [← this]
    rfl
theorem feed_none : feedS (some Rd.new) [] = ([], some Rd.new) := by kernel_rfl
theorem feedB_eq (l : List UInt8) (hl : l.length ≤ 1000000000) : feedB (some Rd.new) l = feedS (some Rd.new) l := by
  cases l with
  | nil => exact feed_none.symm
  | cons b l => exact feedB_all l 0 _ b Fd.new (by omega)
theorem feed3 (x y : List UInt8) : (((feedS (some Rd.new) x).1 ++ (feedS (feedS (some Rd.new) x).2 []).1) ++ (feedS (feedS (feedS (some Rd.new) x).2 []).2 y).1, (feedS (feedS (feedS (some Rd.new) x).2 []).2 y).2) = feedS (some Rd.new) (x ++ y) := by
  have h0 : FdS 0 (some Rd.new) := Fd.new
  have e1 := feedS_append h0 x []
  rw [List.append_nil] at e1
  have e2 := feedS_append h0 x y
  have a1 : (feedS (some Rd.new) x).1 ++ (feedS (feedS (some Rd.new) x).2 []).1 = (feedS (some Rd.new) x).1 := (congrArg Prod.fst e1).symm
  have a2 : (feedS (feedS (some Rd.new) x).2 []).2 = (feedS (some Rd.new) x).2 := (congrArg Prod.snd e1).symm
  rw [a1, a2, e2]
end Go.Proofs.YtafhkpnmolfjeaaGreatDoor.Rq

/-! ## RqE: A reader that may be over: Feed, Left, Over; what lies where. -/
set_option linter.unusedVariables false
set_option linter.unusedSimpArgs false
namespace Go.Proofs.YtafhkpnmolfjeaaGreatDoor.Rq
open Go.RowKit Go.Proofs.YtafhkpnmolfjeaaGreatDoorW.PrintWords Go.Proofs.YtafhkpnmolfjeaaGreatDoor.PRequestBack

def RdS (w : World) (S : Nat → Prop) (g : Nat) : Option Rd → Prop
  | none => OverAt w S g
  | some r => FedAt w S g r
theorem RdS.of_out {w : World} {S : Nat → Prop} {g : Nat} {v : Value} {L : List S53} {O : Option Rd} (h : OutAt w S g v L O) : ∃ T, k53.R 53 w 0 T v L ∧ (∀ k, T k → S k ∧ k < w.heap.size) ∧ RdS w (fun k => S k ∧ ¬ T k) g O := by
  obtain ⟨T, h1, h2, h3⟩ := h
  refine ⟨T, h1, h2, ?_⟩
  cases O with
  | none => exact h3
  | some r => exact h3
theorem RdS.grow {w : World} {S S' : Nat → Prop} {g : Nat} {s : Option Rd} (h : RdS w S g s) (hs : ∀ k, S k → S' k) : RdS w S' g s := by
  cases s with
  | none => exact OverAt.grow h hs
  | some r => exact FedAt.grow h hs
theorem RdS.own {w : World} {S : Nat → Prop} {g : Nat} {s : Option Rd} (h : RdS w S g s) : S g ∧ g < w.heap.size := by
  cases s with
  | none =>
    obtain ⟨h1, cs, h2, _⟩ := h
    exact ⟨h1, (Array.getElem?_eq_some_iff.1 h2).1⟩
  | some r =>
    obtain ⟨_, vw, vh, vb, h⟩ := h
    exact ⟨h.own, h.lt⟩
theorem RdS.move {w w1 : World} {S : Nat → Prop} {g : Nat} {s : Option Rd} (h : RdS w S g s) (hs : w.heap.size ≤ w1.heap.size) (hm : ∀ k, S k → k < w.heap.size → w1.heap[k]? = w.heap[k]?) : RdS w1 S g s := by
  cases s with
  | none =>
    obtain ⟨h1, cs, h2, h3⟩ := h
    exact ⟨h1, cs, (hm g h1 (Array.getElem?_eq_some_iff.1 h2).1).trans h2, h3⟩
  | some r =>
    obtain ⟨ht, vw, vh, vb, h⟩ := h
    exact ⟨ht, vw, vh, vb, h.move hs hm⟩
theorem RdAt.within {w : World} {S : Nat → Prop} {g : Nat} {r : Rd} {vw vh vb vt : Value} {T : Nat → Prop} (h : RdAt w S g r vw vh vb vt T) : RdAt w (fun k => S k ∧ k < w.heap.size) g r vw vh vb vt T where
  cells := h.cells
  own := ⟨h.own, h.lt⟩
  wait := h.wait
  body := h.body
  heads := h.heads
  told := h.told
  sw := fun k hk => ⟨⟨(h.sw k hk).1, (h.sw k hk).2.1⟩, (h.sw k hk).2⟩
  sb := fun k hk => ⟨h.sb k hk, own_lt h.body k hk⟩
  sh := fun k hk => ⟨⟨(h.sh k hk).1, R_lt h.heads k hk⟩, (h.sh k hk).2⟩
  st := fun k hk => ⟨⟨(h.st k hk).1, (h.st k hk).2⟩, (h.st k hk).2⟩
theorem RdS.within {w : World} {S : Nat → Prop} {g : Nat} {s : Option Rd} (h : RdS w S g s) : RdS w (fun k => S k ∧ k < w.heap.size) g s := by
  cases s with
  | none =>
    obtain ⟨h1, cs, h2, h3⟩ := h
    exact ⟨⟨h1, (Array.getElem?_eq_some_iff.1 h2).1⟩, cs, h2, h3⟩
  | some r =>
    obtain ⟨ht, vw, vh, vb, h⟩ := h
    exact ⟨ht, vw, vh, vb, h.within⟩
def endNx : Option Rd → Nx
  | none => .over
  | some r => r.nx
theorem RdS.cell2 {w : World} {S : Nat → Prop} {g : Nat} {s : Option Rd} (h : RdS w S g s) : w.cell? ⟨g, 2, none⟩ = some ((endNx s).val g) := by
  cases s with
  | none => exact OverAt.cell2 h
  | some r => exact FedAt.cell2 h
/-- Feed. -/
theorem feedS_calls {w : World} {S : Nat → Prop} {g : Nat} {s : Option Rd} {N : Nat} (h : RdS w S g s) (hf : FdS N s) {A : Option Addr} {c : Nat} {bs : List UInt8} (hv : (Kd.int .u8).C w A bs.length (ints bs)) (hne : 0 < bs.length → ∀ a, A = some a → a.block ≠ g) (hU : ∀ k, w.heap.size ≤ k → S k) (hS : ∀ k, S k → 9 ≤ k) (hG : Glob w)
    (hN : N + bs.length ≤ 1000000000) :
    Calls Tryz.prog 23 #[.pointer (some ⟨g, 0, none⟩), .slice A bs.length c] w fun e w' => Frame S w w' ∧ ∃ vo, e = .returned vo ∧ OutAt w' S g vo (feedS s bs).1 (feedS s bs).2 := by
  cases s with
  | none =>
    refine (feed_over (OverAt.cell2 h)).mono ?_
    rintro e w' ⟨rfl, rfl⟩
    exact ⟨Frame.refl _ _, _, rfl, fun _ => False, Kd.R_nil _ _ _ _ _, fun k hk => hk.elim, OverAt.grow h (fun k hk => ⟨hk, fun hc => hc⟩)⟩
  | some r =>
    have hr := (Fd.feed hf bs hN).1
    have hu := hf.1.base.used
    have hu0 := hf.1.base.used0
    exact feed_calls h hv hne hU hS hG (by omega) hr
/-- How many bytes wait. -/
def leftS : Option Rd → Int
  | none => 0
  | some r => r.used + r.wait.length
def overS : Option Rd → Bool
  | none => true
  | some _ => false
theorem leftS_calls {w : World} {S : Nat → Prop} {g : Nat} {s : Option Rd} {N : Nat} (h : RdS w S g s) (hf : FdS N s) (hN : N ≤ 1000000000) :
    Calls Tryz.prog 25 #[.pointer (some ⟨g, 0, none⟩)] w fun e w' => e = .returned (.int .i64 (leftS s)) ∧ Below w.heap.size w w' := by
  cases s with
  | none =>
    refine (left_over (OverAt.cell2 h)).mono ?_
    rintro e w' ⟨rfl, rfl⟩
    exact ⟨rfl, Below.refl _ _⟩
  | some r =>
    have hu := hf.1.base.used
    exact left_calls h hf.1.live hf.1.base.used0 (by omega)
theorem overS_calls {w : World} {S : Nat → Prop} {g : Nat} {s : Option Rd} {N : Nat} (h : RdS w S g s) (hf : FdS N s) :
    Calls Tryz.prog 26 #[.pointer (some ⟨g, 0, none⟩)] w fun e w' => e = .returned (.bool (overS s)) ∧ w' = w := by
  refine (over_calls _ h.cell2).mono ?_
  rintro e w' ⟨rfl, rfl⟩
  refine ⟨?_, rfl⟩
  cases s with
  | none => rfl
  | some r =>
    have hx := hf.1.live
    have : r.nx.isOver = false := by cases hq : r.nx <;> first | exact absurd hq hx | rfl
    show Ending.returned (.bool r.nx.isOver) = _
    rw [this]; rfl
/-- Feed in pieces. -/
def feeds : Option Rd → List (List UInt8) → List S53 × Option Rd
  | s, [] => ([], s)
  | s, b :: l => ((feedS s b).1 ++ (feeds (feedS s b).2 l).1, (feeds (feedS s b).2 l).2)
theorem feeds_snoc : ∀ (l : List (List UInt8)) (s : Option Rd) (b : List UInt8), feeds s (l ++ [b]) = ((feeds s l).1 ++ (feedS (feeds s l).2 b).1, (feedS (feeds s l).2 b).2)
  | [], s, b => by simp [feeds]
  | c :: l, s, b => by
    show ((feedS s c).1 ++ (feeds (feedS s c).2 (l ++ [b])).1, (feeds (feedS s c).2 (l ++ [b])).2) = _
    rw [feeds_snoc l]
    simp [feeds, List.append_assoc]
theorem fdS_feeds : ∀ (l : List (List UInt8)) {N : Nat} {s : Option Rd}, FdS N s → N + l.flatten.length ≤ 1000000000 → FdS (N + l.flatten.length) (feeds s l).2
  | [], N, s, h, _ => h
  | b :: l, N, s, h, hN => by
    simp only [List.flatten_cons, List.length_append] at hN ⊢
    have h1 := FdS.feed h b (by omega)
    have h2 := fdS_feeds l h1 (by omega)
    rw [Nat.add_assoc] at h2
    exact h2
theorem FdS.mono {N M : Nat} {s : Option Rd} (h : FdS N s) (hm : N ≤ M) : FdS M s := by
  cases s with
  | none => trivial
  | some r => exact Fd.mono h hm
/-! ### How many events -/
def OneR (t : Nat) : Res → Prop
  | .over l => l.length = t + 1
  | _ => True
theorem stopF_one (st : Int) (r : Rd) : OneR r.told.length (stopF st r) := by
  show (r.told ++ [_]).length = _
  rw [List.length_append, List.length_singleton]
theorem doneF_one (r : Rd) : OneR r.told.length (doneF r) := by
  unfold doneF
  cases r.q.f4
  · show (r.told ++ [_]).length = _
    rw [List.length_append, List.length_singleton]
  · trivial
theorem behindF_one (r : Rd) : OneR r.told.length (behindF r) := by
  unfold behindF
  split
  · exact stopF_one 400 r.kept
  · split
    · split
      · trivial
      · exact stopF_one 400 r.kept
    · split
      · exact doneF_one r.kept
      · split
        · exact stopF_one 400 r.kept
        · split
          · exact stopF_one 413 r.kept
          · split
            · exact stopF_one 413 r.kept
            · trivial
theorem headStep_told' {r r' : Rd} (h : headStep r = .next r' ∨ headStep r = .behind r') : r'.told = r.told := by
  unfold headStep at h
  split at h
  · split at h <;> rcases h with h | h <;> cases h
  · split at h
    · rcases h with h | h
      · cases h
      · injection h with h; subst h; rfl
    · split at h
      · rcases h with h | h <;> cases h
      · split at h
        · split at h
          · rcases h with h | h <;> cases h
          · rcases h with h | h
            · injection h with h; subst h; rfl
            · cases h
        · split at h
          · rcases h with h | h <;> cases h
          · rcases h with h | h
            · injection h with h; subst h; rfl
            · cases h
theorem headF_one : ∀ (n : Nat) (r : Rd), OneR r.told.length (headF n r)
  | 0, r => trivial
  | n + 1, r => by
    rw [headF_succ]
    cases hs : headStep r with
    | stop st => exact stopF_one st r
    | need => trivial
    | next r1 =>
      rw [← headStep_told' (.inl hs)]
      exact headF_one n r1
    | behind r1 =>
      rw [← headStep_told' (.inr hs)]
      exact behindF_one r1
theorem stepF_one (r : Rd) : OneR r.told.length (stepF r) := by
  unfold stepF
  cases r.nx with
  | over => trivial
  | head => exact headF_one _ r
  | body =>
    show OneR _ (bodyF r)
    unfold bodyF
    split
    · trivial
    · exact doneF_one { r with wait := r.wait.drop r.size.toNat, used := r.used + r.size, body := r.body ++ r.wait.take r.size.toNat }
  | size =>
    show OneR _ (sizeF r)
    unfold sizeF
    split
    · split
      · exact stopF_one 400 r
      · trivial
    · split
      · exact stopF_one 400 (r.cutLine _)
      · split
        · exact stopF_one 413 (r.cutLine _)
        · trivial
  | chunk =>
    show OneR _ (chunkF r)
    unfold chunkF
    split
    · trivial
    · split
      · split
        · exact doneF_one r.chunked
        · trivial
      · exact stopF_one 400 r
theorem Inv.events {N K : Nat} (hN : N ≤ 1000000000) : ∀ (n : Nat) (r : Rd), Inv N K r → (goF n r).1.length ≤ K + 1
  | 0, r, h => by
    have := h.base.told
    show r.told.length ≤ _
    omega
  | n + 1, r, h => by
    rw [goF_succ]
    have ho := stepF_one r
    have ht := h.base.told
    cases hs : stepF r with
    | wait r' =>
      have := (h.wait hN hs).2
      show r'.told.length ≤ _
      rw [this]; omega
    | over l =>
      rw [hs] at ho
      have ho' : l.length = r.told.length + 1 := ho
      show l.length ≤ _
      omega
    | more r' => exact Inv.events hN n r' (h.more hN hs)
theorem FdS.events {N : Nat} {s : Option Rd} (h : FdS N s) (x : List UInt8) (hN : N + x.length ≤ 1000000000) : (feedS s x).1.length ≤ 2 * (N + x.length) + 2 := by
  cases s with
  | none => exact Nat.zero_le _
  | some r => exact Inv.events hN _ _ (Fd.ext h x)
theorem fdS_events : ∀ (l : List (List UInt8)) {N M : Nat} {s : Option Rd}, FdS N s → N + l.flatten.length ≤ M → M ≤ 1000000000 → (feeds s l).1.length ≤ l.length * (2 * M + 2)
  | [], N, M, s, h, _, _ => Nat.zero_le _
  | b :: l, N, M, s, h, hN, hM => by
    simp only [List.flatten_cons, List.length_append] at hN
    have h1 := FdS.feed h b (by omega)
    have h2 := FdS.events h b (by omega)
    have h3 := fdS_events l h1 (M := M) (by omega) hM
    show ((feedS s b).1 ++ (feeds (feedS s b).2 l).1).length ≤ _
    rw [List.length_append, List.length_cons, Nat.succ_mul]
    omega
end Go.Proofs.YtafhkpnmolfjeaaGreatDoor.Rq

/-! ## RqO: Plain law: a body in chunks. -/
set_option linter.unusedVariables false
set_option linter.unusedSimpArgs false
namespace Go.Proofs.YtafhkpnmolfjeaaGreatDoor.Rq
open Go.RowKit Go.Proofs.YtafhkpnmolfjeaaGreatDoorW.PrintWords Go.Proofs.YtafhkpnmolfjeaaGreatDoor.PRequestBack

def preC : List UInt8 := [80, 85, 84, 32, 47, 120, 32, 72, 84, 84, 80, 47, 49, 46, 49, 13, 10, 84, 114, 97, 110, 115, 102, 101, 114, 45, 69, 110, 99, 111, 100, 105, 110, 103, 58, 99, 104, 117, 110, 107, 101, 100, 13, 10, 13, 10]
def tPut : ByteArray := ⟨#[80, 85, 84]⟩
def tX : ByteArray := ⟨#[47, 120]⟩
def tChunkedS : ByteArray := ⟨#[99, 104, 117, 110, 107, 101, 100]⟩
def qC : S24 := { f0 := tPut, f1 := tX, f2 := [⟨tCoding, tChunkedS⟩], f3 := ⟨#[]⟩, f4 := true }
def rdC : Rd := { wait := [], used := 46, nx := .size, q := qC, head := 46, lines := 3, old := false, body := [], size := 0, told := [] }
theorem headC : headF 47 { Rd.new with wait := preC } = .more rdC := by kernel_rfl
def dg (k : Nat) : UInt8 := if k < 10 then UInt8.ofNat (48 + k) else UInt8.ofNat (87 + k)
def hx (n : Nat) : List UInt8 := [dg (n / 4096 % 16), dg (n / 256 % 16), dg (n / 16 % 16), dg (n % 16)]
def chunkB (l : List UInt8) : List UInt8 := hx l.length ++ ([13, 10] ++ (l ++ [13, 10]))
theorem dg_ok : ∀ k : Fin 16, digF (dg k.val) = some (k.val : Int) ∧ dg k.val ≠ 13 := by decide +kernel
theorem digF_dg {k : Nat} (h : k < 16) : digF (dg k) = some (k : Int) := (dg_ok ⟨k, h⟩).1
theorem dg_ne {k : Nat} (h : k < 16) : dg k ≠ 13 := (dg_ok ⟨k, h⟩).2
theorem hexF_hx {n : Nat} (h : n < 65536) : hexF (hx n) = some (n : Int) := by
  unfold hexF hx
  rw [if_neg (by simp)]
  simp only [numF]
  rw [digF_dg (Nat.mod_lt _ (by omega))]
  simp only
  rw [digF_dg (Nat.mod_lt _ (by omega))]
  simp only
  rw [digF_dg (Nat.mod_lt _ (by omega))]
  simp only
  rw [digF_dg (Nat.mod_lt _ (by omega))]
  simp only
  congr 1
  omega
theorem crlf_skip {x : UInt8} (hx : x ≠ 13) (xs : List UInt8) (h : 0 ≤ crlf xs) : crlf (x :: xs) = crlf xs + 1 := by
  rw [crlf_cons]
  have hp : ¬ [13, 10].isPrefixOf (x :: xs) = true := by
    simp only [List.isPrefixOf, Bool.and_eq_true, beq_iff_eq]
    intro hc
    exact hx hc.1.symm
  rw [if_neg hp, if_neg (by omega)]
theorem crlf_here (xs : List UInt8) : crlf (13 :: 10 :: xs) = 0 := by
  rw [crlf_cons, if_pos (by simp [List.isPrefixOf])]
theorem crlf_hx (n : Nat) (xs : List UInt8) : crlf (hx n ++ (13 :: 10 :: xs)) = 4 := by
  have h0 := crlf_here xs
  unfold hx
  simp only [List.cons_append, List.nil_append]
  have h1 := crlf_skip (dg_ne (k := n % 16) (Nat.mod_lt _ (by omega))) (13 :: 10 :: xs) (by omega)
  have h2 := crlf_skip (dg_ne (k := n / 16 % 16) (Nat.mod_lt _ (by omega))) (dg (n % 16) :: 13 :: 10 :: xs) (by omega)
  have h3 := crlf_skip (dg_ne (k := n / 256 % 16) (Nat.mod_lt _ (by omega))) (dg (n / 16 % 16) :: dg (n % 16) :: 13 :: 10 :: xs) (by omega)
  have h4 := crlf_skip (dg_ne (k := n / 4096 % 16) (Nat.mod_lt _ (by omega))) (dg (n / 256 % 16) :: dg (n / 16 % 16) :: dg (n % 16) :: 13 :: 10 :: xs) (by omega)
  omega
theorem hx_length (n : Nat) : (hx n).length = 4 := rfl
/-- A chunk is read. -/
theorem size_chunk {r : Rd} {l rest : List UInt8} (hl : l.length < 65536) (hw : r.wait = chunkB l ++ rest) :
    sizeF r = if 8192 < r.body.length + l.length then stopF 413 (r.cutLine 4) else .more { r with wait := l ++ (13 :: 10 :: rest), used := r.used + 6, size := l.length, nx := .chunk } := by
  have hw' : r.wait = hx l.length ++ (13 :: 10 :: (l ++ (13 :: 10 :: rest))) := by rw [hw]; unfold chunkB; simp
  have hc : crlf r.wait = 4 := by rw [hw']; exact crlf_hx _ _
  have ht : r.wait.take 4 = hx l.length := by rw [hw']; exact List.take_left' (hx_length _)
  have hd : r.wait.drop 6 = l ++ (13 :: 10 :: rest) := by
    rw [hw']; rfl
  unfold sizeF
  rw [hc, if_neg (by omega)]
  show (match hexF (r.wait.take 4) with | none => _ | some n => _) = _
  rw [ht, hexF_hx hl]
  show (if 8192 < (r.body.length : Int) + (l.length : Int) then _ else _) = _
  by_cases h : 8192 < r.body.length + l.length
  · rw [if_pos h, if_pos (by omega)]; rfl
  · rw [if_neg h, if_neg (by omega)]
    simp only [Rd.cutLine]
    show Res.more { r with wait := r.wait.drop 6, used := r.used + _, size := _, nx := .chunk } = _
    rw [hd]
    rfl
theorem chunk_take {r : Rd} {l rest : List UInt8} (hs : r.size = l.length) (hw : r.wait = l ++ (13 :: 10 :: rest)) :
    chunkF r = if l = [] then doneF { r with wait := rest, used := r.used + (l.length + 2), body := r.body ++ l } else .more { r with wait := rest, used := r.used + (l.length + 2), body := r.body ++ l, nx := .size } := by
  have hlen : r.wait.length = l.length + (rest.length + 2) := by rw [hw]; simp
  have hn : r.size.toNat = l.length := by rw [hs]; simp
  have hd : (r.wait.take (l.length + 2)).drop l.length = [13, 10] := by rw [hw]; simp [List.take_append, List.drop_append]
  have hc : r.chunked = { r with wait := rest, used := r.used + (l.length + 2), body := r.body ++ l } := by
    unfold Rd.chunked
    rw [hn, hs]
    have e1 : r.wait.drop (l.length + 2) = rest := by rw [hw]; simp [List.drop_append]
    have e2 : r.wait.take l.length = l := by rw [hw]; simp
    rw [e1, e2]
  unfold chunkF
  rw [if_neg (by omega), hn, hd, if_pos rfl, hc]
  by_cases h : l = []
  · rw [if_pos h, if_pos (by rw [hs, h]; rfl)]
  · have : l.length ≠ 0 := by simpa using h
    rw [if_neg h, if_neg (by omega)]
def tailC : List UInt8 := [48, 13, 10, 13, 10]
theorem tail_size {r : Rd} (hw : r.wait = tailC) (hb : r.body.length ≤ 8192) : sizeF r = .more { r with wait := [13, 10], used := r.used + 3, size := 0, nx := .chunk } := by
  have hc : crlf r.wait = 1 := by rw [hw]; kernel_rfl
  unfold sizeF
  rw [hc, if_neg (by omega)]
  show (match hexF (r.wait.take 1) with | none => _ | some n => _) = _
  rw [hw]
  have hx : hexF (tailC.take 1) = some 0 := by kernel_rfl
  rw [hx]
  show (if 8192 < (r.body.length : Int) + 0 then _ else _) = _
  rw [if_neg (by omega)]
  unfold Rd.cutLine
  rw [hw]
  rfl
theorem stepF_size {r : Rd} (h : r.nx = .size) : stepF r = sizeF r := by unfold stepF; rw [h]
theorem stepF_chunk {r : Rd} (h : r.nx = .chunk) : stepF r = chunkF r := by unfold stepF; rw [h]
theorem stepF_head {r : Rd} (h : r.nx = .head) : stepF r = headF (r.wait.length + 1) r := by unfold stepF; rw [h]
theorem head_empty (r : Rd) (hw : r.wait = []) (hh : r.head < 2048) : headF (r.wait.length + 1) r = .wait r := by
  rw [headF_succ]
  have : headStep r = .need := headStep_need r (.inl (by rw [hw]; decide +kernel)) (by rw [hw]; simp only [List.length_nil]; omega)
  rw [this]
theorem goF_more {n : Nat} {r r' : Rd} (h : stepF r = .more r') : goF (n + 1) r = goF n r' := by rw [goF_succ, h]
theorem goF_wait {n : Nat} {r r' : Rd} (h : stepF r = .wait r') : goF (n + 1) r = (r'.told, some { r' with told := [] }) := by rw [goF_succ, h]
theorem goF_over {n : Nat} {r : Rd} {l : List S53} (h : stepF r = .over l) : goF (n + 1) r = (l, none) := by rw [goF_succ, h]
theorem goF_tail {r : Rd} (n : Nat) (hnx : r.nx = .size) (hw : r.wait = tailC) (hb : r.body.length ≤ 8192) (hq : r.q.f4 = true) :
    (goF (n + 3) r).1 = r.told ++ [⟨{ r.q with f3 := str r.body }, 0⟩] ∧ ∃ r', (goF (n + 3) r).2 = some r' ∧ r'.nx = .head ∧ r'.wait = [] ∧ r'.used = 0 := by
  have e1 : goF (n + 3) r = goF (n + 2) { r with wait := [13, 10], used := r.used + 3, size := 0, nx := .chunk } := goF_more (by rw [stepF_size hnx, tail_size hw hb])
  have h := chunk_take (r := { r with wait := [13, 10], used := r.used + 3, size := 0, nx := .chunk }) (l := []) (rest := []) rfl rfl
  rw [if_pos rfl] at h
  have hd : doneF { r with wait := [], used := r.used + 3 + ((([] : List UInt8).length : Int) + 2), body := r.body ++ [], size := 0, nx := .chunk } = .more { ({ r with wait := [], used := 0, size := 0 } : Rd).begun with told := r.told ++ [⟨{ r.q with f3 := str r.body }, 0⟩] } := by
    unfold doneF
    rw [List.append_nil]
    show (if r.q.f4 then _ else _) = _
    rw [hq]
    rfl
  have e2 : goF (n + 2) { r with wait := [13, 10], used := r.used + 3, size := 0, nx := .chunk } = goF (n + 1) { ({ r with wait := [], used := 0, size := 0 } : Rd).begun with told := r.told ++ [⟨{ r.q with f3 := str r.body }, 0⟩] } :=
    goF_more (by rw [stepF_chunk rfl, h]; exact hd)
  have e3 := goF_wait (n := n) (r := { ({ r with wait := [], used := 0, size := 0 } : Rd).begun with told := r.told ++ [⟨{ r.q with f3 := str r.body }, 0⟩] }) (by rw [stepF_head rfl]; exact head_empty _ rfl (by show (0 : Int) < 2048; decide))
  rw [e1, e2, e3]
  exact ⟨rfl, _, rfl, rfl, rfl, rfl⟩
/-- All chunks, and the end. -/
theorem goF_chunks : ∀ (ps : List (List UInt8)) (n : Nat) (r : Rd), (∀ p ∈ ps, p ≠ [] ∧ p.length < 65536) → r.nx = .size → r.wait = ps.flatMap chunkB ++ tailC → r.body.length ≤ 8192 → r.q.f4 = true → 2 * ps.length + 3 ≤ n →
    if 8192 < r.body.length + ps.flatten.length then goF n r = (r.told ++ [⟨z24, 413⟩], none)
    else (goF n r).1 = r.told ++ [⟨{ r.q with f3 := str (r.body ++ ps.flatten) }, 0⟩] ∧ ∃ r', (goF n r).2 = some r'
  | [], n, r, _, hnx, hw, hb, hq, hn => by
    rw [if_neg (by simp only [List.flatten_nil, List.length_nil]; omega)]
    obtain ⟨m, rfl⟩ : ∃ m, n = m + 3 := ⟨n - 3, by simp only [List.length_nil] at hn; omega⟩
    obtain ⟨a, r', b, _⟩ := goF_tail m hnx hw hb hq
    exact ⟨by rw [List.flatten_nil, List.append_nil]; exact a, r', b⟩
  | p :: ps, n, r, hp, hnx, hw, hb, hq, hn => by
    obtain ⟨hp0, hp1⟩ := hp p (List.mem_cons_self ..)
    simp only [List.length_cons] at hn
    obtain ⟨m, rfl⟩ : ∃ m, n = m + 2 := ⟨n - 2, by omega⟩
    have hw' : r.wait = chunkB p ++ (ps.flatMap chunkB ++ tailC) := by rw [hw]; simp
    have hs := size_chunk hp1 hw'
    rw [goF_succ, stepF_size hnx, hs]
    simp only [List.flatten_cons, List.length_append]
    by_cases h : 8192 < r.body.length + p.length
    · rw [if_pos h, if_pos (by omega)]
      rfl
    · rw [if_neg h]
      simp only
      rw [goF_succ, stepF_chunk rfl, chunk_take (l := p) (rest := ps.flatMap chunkB ++ tailC) rfl rfl, if_neg hp0]
      simp only
      have ih := goF_chunks ps m { r with wait := ps.flatMap chunkB ++ tailC, used := r.used + 6 + ((p.length : Int) + 2), size := p.length, body := r.body ++ p, nx := .size } (fun x hx => hp x (List.mem_cons_of_mem _ hx)) rfl rfl (by show (r.body ++ p).length ≤ 8192; rw [List.length_append]; omega) hq (by omega)
      simp only [List.length_append] at ih
      by_cases h2 : 8192 < r.body.length + (p.length + ps.flatten.length)
      · rw [if_pos h2]
        rw [if_pos (by omega)] at ih
        exact ih
      · rw [if_neg h2]
        rw [if_neg (by omega)] at ih
        rw [List.append_assoc] at ih
        exact ih
theorem feed_chunks (ps : List (List UInt8)) (hp : ∀ p ∈ ps, p ≠ [] ∧ p.length < 65536) :
    if 8192 < ps.flatten.length then feedF Rd.new (preC ++ (ps.flatMap chunkB ++ tailC)) = ([⟨z24, 413⟩], none)
    else (feedF Rd.new (preC ++ (ps.flatMap chunkB ++ tailC))).1 = [⟨{ qC with f3 := str ps.flatten }, 0⟩] ∧ ∃ r', (feedF Rd.new (preC ++ (ps.flatMap chunkB ++ tailC))).2 = some r' := by
  have hx := (headF_ext 47 ((Rd.new.ext (preC ++ (ps.flatMap chunkB ++ tailC))).wait.length + 1) { Rd.new with wait := preC } (ps.flatMap chunkB ++ tailC) (by decide) (Nat.lt_succ_self _)).2 (by rw [headC]; intro r' h; cases h)
  rw [headC] at hx
  have hl : ps.length ≤ (ps.flatMap chunkB).length := by
    clear hp hx
    induction ps with
    | nil => exact Nat.le_refl _
    | cons p ps ih =>
      simp only [List.flatMap_cons, List.length_append, List.length_cons, chunkB, hx_length]
      omega
  have hmu : 2 * ps.length + 3 ≤ (Rd.new.ext (preC ++ (ps.flatMap chunkB ++ tailC))).mu := by
    have := le_mu (Rd.new.ext (preC ++ (ps.flatMap chunkB ++ tailC)))
    have e : (Rd.new.ext (preC ++ (ps.flatMap chunkB ++ tailC))).wait.length = 46 + ((ps.flatMap chunkB).length + 5) := by
      show ([] ++ (preC ++ (ps.flatMap chunkB ++ tailC))).length = _
      simp only [List.nil_append, List.length_append]
      rfl
    omega
  have hg : feedF Rd.new (preC ++ (ps.flatMap chunkB ++ tailC)) = goF (Rd.new.ext (preC ++ (ps.flatMap chunkB ++ tailC))).mu (rdC.ext (ps.flatMap chunkB ++ tailC)) := by
    unfold feedF
    rw [goF_succ, stepF_head rfl]
    have e : headF ((Rd.new.ext (preC ++ (ps.flatMap chunkB ++ tailC))).wait.length + 1) (Rd.new.ext (preC ++ (ps.flatMap chunkB ++ tailC))) = .more (rdC.ext (ps.flatMap chunkB ++ tailC)) := hx
    rw [e]
  rw [hg]
  have := goF_chunks ps (Rd.new.ext (preC ++ (ps.flatMap chunkB ++ tailC))).mu (rdC.ext (ps.flatMap chunkB ++ tailC)) hp rfl rfl (by show 0 ≤ 8192; decide) rfl hmu
  have e : (rdC.ext (ps.flatMap chunkB ++ tailC)).body.length + ps.flatten.length = ps.flatten.length := by show 0 + _ = _; omega
  rw [e] at this
  exact this
end Go.Proofs.YtafhkpnmolfjeaaGreatDoor.Rq

/-! ## RqT: Plain law: requests that are printed, one behind the other. -/
set_option linter.unusedVariables false
set_option linter.unusedSimpArgs false
namespace Go.Proofs.YtafhkpnmolfjeaaGreatDoor.Rq
open Go.RowKit Go.Proofs.YtafhkpnmolfjeaaGreatDoorW.PrintWords Go.Proofs.YtafhkpnmolfjeaaGreatDoor.PRequestBack

/-! ### The size is looked at in a body alone -/
def Rd.sz (s : Int) (r : Rd) : Rd := { r with size := s }
def Res.sz (s : Int) : Res → Res
  | .more r => .more (if r.nx = .body then r else r.sz s)
  | .wait r => .wait (r.sz s)
  | .over l => .over l
theorem doneF_sz (s : Int) (r : Rd) : doneF (r.sz s) = (doneF r).sz s := by
  unfold doneF
  show (if r.q.f4 then _ else _) = _
  cases r.q.f4 <;> rfl
theorem behindF_sz (s : Int) (r : Rd) (hn : r.nx = .head) : behindF (r.sz s) = (behindF r).sz s := by
  unfold behindF
  show (if 1 < (vals r.q.f2 tLength).length + (vals r.q.f2 tCoding).length then _ else _) = _
  split
  · rfl
  · show (match vals r.q.f2 tCoding with | c :: _ => _ | [] => _) = _
    cases vals r.q.f2 tCoding with
    | cons c cs =>
      show (if _ then _ else _) = Res.sz s (if _ then _ else _)
      split <;> rfl
    | nil =>
      show (match vals r.q.f2 tLength with | [] => _ | l :: _ => _) = _
      cases vals r.q.f2 tLength with
      | nil => exact doneF_sz s r.kept
      | cons l ls =>
        show (if _ then _ else _) = Res.sz s (if _ then _ else _)
        split
        · rfl
        · show (match atoiF l with | none => _ | some n => _) = Res.sz s (match atoiF l with | none => _ | some n => _)
          cases atoiF l with
          | none => rfl
          | some n =>
            show (if _ then _ else _) = Res.sz s (if _ then _ else _)
            split <;> rfl
def HStep.sz (s : Int) : HStep → HStep
  | .stop st => .stop st
  | .need => .need
  | .next r => .next (r.sz s)
  | .behind r => .behind (r.sz s)
theorem headStep_sz (s : Int) (r : Rd) : headStep (r.sz s) = (headStep r).sz s := by
  unfold headStep
  show (if crlf r.wait < 0 ∨ 2048 - r.head < crlf r.wait + 2 then (if 2048 - r.head ≤ r.wait.length then _ else _) else
    if 1 < r.lines + 1 ∧ r.wait.take (crlf r.wait).toNat = [] then _ else if 33 < r.lines + 1 then _ else if r.lines + 1 = 1 then
      (match firstF (str (r.wait.take (crlf r.wait).toNat)) with | none => _ | some (a, b, o) => _)
    else (match headerF (str (r.wait.take (crlf r.wait).toNat)) with | none => _ | some p => _)) = _
  split
  · split <;> rfl
  · split
    · rfl
    · split
      · rfl
      · split
        · cases firstF (str (r.wait.take (crlf r.wait).toNat)) with
          | none => rfl
          | some p => rfl
        · cases headerF (str (r.wait.take (crlf r.wait).toNat)) with
          | none => rfl
          | some p => rfl
theorem headStep_nx {r r' : Rd} (h : headStep r = .next r' ∨ headStep r = .behind r') : r'.nx = r.nx := by
  unfold headStep at h
  split at h
  · split at h <;> rcases h with h | h <;> cases h
  · split at h
    · rcases h with h | h
      · cases h
      · injection h with h; subst h; rfl
    · split at h
      · rcases h with h | h <;> cases h
      · split at h
        · split at h
          · rcases h with h | h <;> cases h
          · rcases h with h | h
            · injection h with h; subst h; rfl
            · cases h
        · split at h
          · rcases h with h | h <;> cases h
          · rcases h with h | h
            · injection h with h; subst h; rfl
            · cases h
theorem headF_sz (s : Int) : ∀ (n : Nat) (r : Rd), r.nx = .head → headF n (r.sz s) = (headF n r).sz s
  | 0, r, _ => rfl
  | n + 1, r, hn => by
    rw [headF_succ, headF_succ, headStep_sz]
    cases hs : headStep r with
    | stop st => rfl
    | need => rfl
    | next r1 => exact headF_sz s n r1 ((headStep_nx (.inl hs)).trans hn)
    | behind r1 => exact behindF_sz s r1 ((headStep_nx (.inr hs)).trans hn)
def Sim (r r' : Rd) : Prop := r = r' ∨ ((r.nx = .head ∨ r.nx = .size) ∧ ∃ s, r' = r.sz s)
def SimR : Res → Res → Prop
  | .more a, .more b => Sim a b
  | .wait a, .wait b => Sim a b ∧ a.told = b.told
  | .over l, .over l' => l = l'
  | _, _ => False
theorem SimR.refl (x : Res) : SimR x x := by
  cases x with
  | more r => exact .inl rfl
  | wait r => exact ⟨.inl rfl, rfl⟩
  | over l => exact rfl
theorem doneF_nx {r r' : Rd} (h : doneF r = .more r') : r'.nx = .head := (doneF_mu h).1
theorem behindF_nx {r r' : Rd} (h : behindF r = .more r') : r'.nx = .head ∨ r'.nx = .size ∨ r'.nx = .body := by
  unfold behindF at h
  split at h
  · cases h
  · split at h
    · split at h
      · injection h with h; subst h; exact .inr (.inl rfl)
      · cases h
    · split at h
      · exact .inl (doneF_nx h)
      · split at h
        · cases h
        · split at h
          · cases h
          · split at h
            · cases h
            · injection h with h; subst h; exact .inr (.inr rfl)
theorem headF_nxm : ∀ (n : Nat) (r r' : Rd), headF n r = .more r' → r'.nx = .head ∨ r'.nx = .size ∨ r'.nx = .body
  | 0, r, r', h => by cases h
  | n + 1, r, r', h => by
    rw [headF_succ] at h
    cases hs : headStep r with
    | stop st => rw [hs] at h; cases h
    | need => rw [hs] at h; cases h
    | next r1 => rw [hs] at h; exact headF_nxm n r1 r' h
    | behind r1 => rw [hs] at h; exact behindF_nx h
theorem stepF_sim {r r' : Rd} (h : Sim r r') : SimR (stepF r) (stepF r') := by
  rcases h with rfl | ⟨hn, s, rfl⟩
  · exact SimR.refl _
  · rcases hn with hn | hn
    · have e1 : stepF r = headF (r.wait.length + 1) r := by unfold stepF; rw [hn]
      have e2 : stepF (r.sz s) = headF (r.wait.length + 1) (r.sz s) := by
        unfold stepF; rw [show (r.sz s).nx = .head from hn]; rfl
      rw [e1, e2, headF_sz s _ r hn]
      cases hh : headF (r.wait.length + 1) r with
      | over l => exact rfl
      | wait r1 => exact ⟨.inr ⟨.inl ((headF_nx _ _ _ hh).trans hn), s, rfl⟩, rfl⟩
      | more r1 =>
        show Sim r1 (if r1.nx = .body then r1 else r1.sz s)
        by_cases hb : r1.nx = .body
        · rw [if_pos hb]; exact .inl rfl
        · rw [if_neg hb]
          rcases headF_nxm _ _ _ hh with h | h | h
          · exact .inr ⟨.inl h, s, rfl⟩
          · exact .inr ⟨.inr h, s, rfl⟩
          · exact absurd h hb
    · have e1 : stepF r = sizeF r := by unfold stepF; rw [hn]
      have e2 : stepF (r.sz s) = sizeF (r.sz s) := by unfold stepF; rw [show (r.sz s).nx = .size from hn]
      rw [e1, e2]
      unfold sizeF
      show SimR _ (if crlf r.wait < 0 ∨ 6 < crlf r.wait + 2 then (if (6 : Int) ≤ r.wait.length then stopF 400 (r.sz s) else .wait (r.sz s)) else (match hexF (r.wait.take (crlf r.wait).toNat) with | none => stopF 400 ((r.sz s).cutLine (crlf r.wait).toNat) | some n => if 8192 < (r.body.length : Int) + n then stopF 413 ((r.sz s).cutLine (crlf r.wait).toNat) else .more { (r.sz s).cutLine (crlf r.wait).toNat with size := n, nx := .chunk }))
      split
      · split
        · exact rfl
        · exact ⟨.inr ⟨.inr hn, s, rfl⟩, rfl⟩
      · cases hexF (r.wait.take (crlf r.wait).toNat) with
        | none => exact rfl
        | some n =>
          show SimR (if 8192 < (r.body.length : Int) + n then _ else _) (if 8192 < (r.body.length : Int) + n then _ else _)
          split
          · exact rfl
          · exact .inl rfl
def SimO : Option Rd → Option Rd → Prop
  | none, none => True
  | some a, some b => Sim a b
  | _, _ => False
theorem Sim.told {a b : Rd} (h : Sim a b) : a.told = b.told := by
  rcases h with rfl | ⟨_, s, rfl⟩ <;> rfl
theorem Sim.told0 {a b : Rd} (h : Sim a b) : Sim { a with told := [] } { b with told := [] } := by
  rcases h with rfl | ⟨hn, s, rfl⟩
  · exact .inl rfl
  · exact .inr ⟨hn, s, rfl⟩
theorem goF_sim : ∀ (n : Nat) (r r' : Rd), Sim r r' → (goF n r).1 = (goF n r').1 ∧ SimO (goF n r).2 (goF n r').2
  | 0, r, r', h => ⟨h.told, h.told0⟩
  | n + 1, r, r', h => by
    rw [goF_succ, goF_succ]
    have hs := stepF_sim h
    revert hs
    cases stepF r with
    | more a =>
      cases stepF r' with
      | more b => exact fun hs => goF_sim n a b hs
      | wait b => exact fun hs => hs.elim
      | over l => exact fun hs => hs.elim
    | wait a =>
      cases stepF r' with
      | more b => exact fun hs => hs.elim
      | wait b => exact fun hs => ⟨hs.2, hs.1.told0⟩
      | over l => exact fun hs => hs.elim
    | over l =>
      cases stepF r' with
      | more b => exact fun hs => hs.elim
      | wait b => exact fun hs => hs.elim
      | over l' => exact fun hs => ⟨hs, trivial⟩
theorem Sim.ext {a b : Rd} (h : Sim a b) (x : List UInt8) : Sim (a.ext x) (b.ext x) := by
  rcases h with rfl | ⟨hn, s, rfl⟩
  · exact .inl rfl
  · exact .inr ⟨hn, s, rfl⟩
theorem Sim.mu {a b : Rd} (h : Sim a b) : a.mu = b.mu := by
  rcases h with rfl | ⟨hn, s, rfl⟩ <;> rfl
theorem feedF_sim {a b : Rd} (h : Sim a b) (x : List UInt8) : (feedF a x).1 = (feedF b x).1 ∧ SimO (feedF a x).2 (feedF b x).2 := by
  unfold feedF
  rw [(h.ext x).mu]
  exact goF_sim _ _ _ (h.ext x)
theorem Sim.trans {a b c : Rd} (h : Sim a b) (k : Sim b c) : Sim a c := by
  rcases h with rfl | ⟨hn, s, rfl⟩
  · exact k
  · rcases k with rfl | ⟨hn', s', rfl⟩
    · exact .inr ⟨hn, s, rfl⟩
    · exact .inr ⟨hn, s', rfl⟩

/-! ### What is told: requests that are kept, and what ends it -/
def Kept (l : List S53) : Prop := ∀ e ∈ l, e.f1 = 0 ∧ e.f0.f4 = true
def Last (l : List S53) : Prop := ∃ l' e, l = l' ++ [e] ∧ Kept l' ∧ (e.f1 ≠ 0 ∨ e.f0.f4 = false)
theorem Kept.snoc {l : List S53} (h : Kept l) {e : S53} (he : e.f1 = 0 ∧ e.f0.f4 = true) : Kept (l ++ [e]) := by
  intro x hx
  rcases List.mem_append.1 hx with hx | hx
  · exact h x hx
  · rw [List.mem_singleton.1 hx]; exact he
def KeptR : Res → Prop
  | .more r => Kept r.told
  | .wait r => Kept r.told
  | .over l => Last l
theorem stopF_kept {r : Rd} (h : Kept r.told) {st : Int} (hs : st ≠ 0) : KeptR (stopF st r) := ⟨r.told, _, rfl, h, .inl hs⟩
theorem doneF_kept {r : Rd} (h : Kept r.told) : KeptR (doneF r) := by
  unfold doneF
  cases hk : r.q.f4
  · exact ⟨r.told, _, rfl, h, .inr hk⟩
  · exact h.snoc ⟨rfl, hk⟩
theorem behindF_kept {r : Rd} (h : Kept r.told) : KeptR (behindF r) := by
  have h' : Kept r.kept.told := h
  unfold behindF
  split
  · exact stopF_kept h' (by decide)
  · split
    · split
      · exact h'
      · exact stopF_kept h' (by decide)
    · split
      · exact doneF_kept h'
      · split
        · exact stopF_kept h' (by decide)
        · split
          · exact stopF_kept h' (by decide)
          · split
            · exact stopF_kept h' (by decide)
            · exact h'
theorem headStep_told {r r' : Rd} (h : headStep r = .next r' ∨ headStep r = .behind r') : r'.told = r.told := by
  unfold headStep at h
  split at h
  · split at h <;> rcases h with h | h <;> cases h
  · split at h
    · rcases h with h | h
      · cases h
      · injection h with h; subst h; rfl
    · split at h
      · rcases h with h | h <;> cases h
      · split at h
        · split at h
          · rcases h with h | h <;> cases h
          · rcases h with h | h
            · injection h with h; subst h; rfl
            · cases h
        · split at h
          · rcases h with h | h <;> cases h
          · rcases h with h | h
            · injection h with h; subst h; rfl
            · cases h
theorem headStep_stop {r : Rd} {st : Int} (h : headStep r = .stop st) : st ≠ 0 := by
  unfold headStep at h
  split at h
  · split at h
    · injection h with h; subst h; decide
    · cases h
  · split at h
    · cases h
    · split at h
      · injection h with h; subst h; decide
      · split at h
        · split at h
          · injection h with h; subst h; decide
          · cases h
        · split at h
          · injection h with h; subst h; decide
          · cases h
theorem headF_kept : ∀ (n : Nat) (r : Rd), Kept r.told → KeptR (headF n r)
  | 0, r, h => h
  | n + 1, r, h => by
    rw [headF_succ]
    cases hs : headStep r with
    | stop st => exact stopF_kept h (headStep_stop hs)
    | need => exact h
    | next r1 => exact headF_kept n r1 (by rw [headStep_told (.inl hs)]; exact h)
    | behind r1 => exact behindF_kept (by rw [headStep_told (.inr hs)]; exact h)
theorem stepF_kept {r : Rd} (h : Kept r.told) : KeptR (stepF r) := by
  unfold stepF
  cases r.nx with
  | over => exact h
  | head => exact headF_kept _ r h
  | body =>
    show KeptR (bodyF r)
    unfold bodyF
    split
    · exact h
    · exact doneF_kept (r := { r with wait := r.wait.drop r.size.toNat, used := r.used + r.size, body := r.body ++ r.wait.take r.size.toNat }) h
  | size =>
    show KeptR (sizeF r)
    unfold sizeF
    split
    · split
      · exact stopF_kept h (by decide)
      · exact h
    · split
      · exact stopF_kept (r := r.cutLine _) h (by decide)
      · split
        · exact stopF_kept (r := r.cutLine _) h (by decide)
        · exact h
  | chunk =>
    show KeptR (chunkF r)
    unfold chunkF
    split
    · exact h
    · split
      · split
        · exact doneF_kept (r := r.chunked) h
        · exact h
      · exact stopF_kept h (by decide)
theorem goF_kept : ∀ (n : Nat) (r : Rd), Kept r.told → match (goF n r).2 with | some _ => Kept (goF n r).1 | none => Last (goF n r).1
  | 0, r, h => h
  | n + 1, r, h => by
    rw [goF_succ]
    have hs := stepF_kept h
    revert hs
    cases stepF r with
    | more a => exact fun hs => goF_kept n a hs
    | wait a => exact fun hs => hs
    | over l => exact fun hs => hs

/-! ### A reader that has read nothing of a request -/
/-- Where nothing was read of a request, it is as begin makes it. -/
structure Zero (r : Rd) : Prop where
  used0 : 0 ≤ r.used
  size0 : (r.nx = .body ∨ r.nx = .chunk) → 0 ≤ r.size
  live : r.nx ≠ .over
  zero : r.used = 0 → r.nx = .head ∧ r.q = z24 ∧ r.head = 0 ∧ r.lines = 0 ∧ r.old = false ∧ r.body = []
def ZeroR : Res → Prop
  | .more r => Zero r
  | .wait r => Zero r
  | .over _ => True
theorem doneF_zero {r : Rd} : ZeroR (doneF r) := by
  unfold doneF
  cases r.q.f4
  · trivial
  · exact ⟨Int.le_refl _, (fun h => by rcases h with h | h <;> cases h), (fun h => by cases h), fun _ => ⟨rfl, rfl, rfl, rfl, rfl, rfl⟩⟩
theorem behindF_zero {r : Rd} (h : 0 < r.used) : ZeroR (behindF r) := by
  have hn : ∀ {P : Prop}, (r.used = 0) → P := fun h0 => absurd h0 (by omega)
  unfold behindF
  split
  · trivial
  · split
    · split
      · exact ⟨Int.le_of_lt h, (fun h => by rcases h with h | h <;> cases h), (fun h => by cases h), fun h0 => hn h0⟩
      · trivial
    · split
      · exact doneF_zero
      · split
        · trivial
        · rename_i hv
          split
          · trivial
          · rename_i n hx
            split
            · trivial
            · exact ⟨Int.le_of_lt h, (fun _ => atoiF_pos hx (by simp only [Bool.or_eq_true, Bool.not_eq_true', not_or, Bool.not_eq_false] at hv; exact hv.2)), (fun h => by cases h), fun h0 => hn h0⟩
theorem headStep_used {r r' : Rd} (h0 : 0 ≤ r.used) (h : headStep r = .next r' ∨ headStep r = .behind r') : 0 < r'.used := by
  have hl : ∀ i : Nat, 0 < (r.line i).used := fun i => by simp only [Rd.line]; omega
  unfold headStep at h
  split at h
  · split at h <;> rcases h with h | h <;> cases h
  · split at h
    · rcases h with h | h
      · cases h
      · injection h with h; subst h; exact hl _
    · split at h
      · rcases h with h | h <;> cases h
      · split at h
        · split at h
          · rcases h with h | h <;> cases h
          · rcases h with h | h
            · injection h with h; subst h; exact hl _
            · cases h
        · split at h
          · rcases h with h | h <;> cases h
          · rcases h with h | h
            · injection h with h; subst h; exact hl _
            · cases h
theorem headF_zero : ∀ (n : Nat) (r : Rd), Zero r → r.nx = .head → ZeroR (headF n r)
  | 0, r, h, _ => h
  | n + 1, r, h, hn => by
    rw [headF_succ]
    cases hs : headStep r with
    | stop st => trivial
    | need => exact h
    | next r1 =>
      have hu := headStep_used h.used0 (.inl hs)
      have hx := (headStep_nx (.inl hs)).trans hn
      exact headF_zero n r1 ⟨Int.le_of_lt hu, (fun hc => by rw [hx] at hc; rcases hc with h | h <;> cases h), (by rw [hx]; decide), (fun h0 => absurd h0 (by omega))⟩ hx
    | behind r1 => exact behindF_zero (headStep_used h.used0 (.inr hs))
theorem stepF_zero {r : Rd} (h : Zero r) : ZeroR (stepF r) := by
  have hpos : r.nx ≠ .head → 0 < r.used := fun hn => by
    have := h.used0
    by_cases h0 : r.used = 0
    · exact absurd (h.zero h0).1 hn
    · omega
  unfold stepF
  cases hn : r.nx with
  | over => exact absurd hn h.live
  | head => exact headF_zero _ r h hn
  | body =>
    show ZeroR (bodyF r)
    unfold bodyF
    split
    · exact h
    · exact doneF_zero
  | size =>
    have hp := hpos (by rw [hn]; decide)
    show ZeroR (sizeF r)
    unfold sizeF
    split
    · split
      · trivial
      · exact h
    · split
      · trivial
      · rename_i n hx
        split
        · trivial
        · rename_i hi _
          have hsz := crlf_size r.wait (by omega)
          have hu : 0 < (r.cutLine (crlf r.wait).toNat).used := by simp only [Rd.cutLine]; omega
          have hne : (r.cutLine (crlf r.wait).toNat).used ≠ 0 := by omega
          exact ⟨Int.le_of_lt hu, (fun _ => (hexF_range (by rw [List.length_take]; omega) hx).1), (fun h => by cases h), (fun h0 => absurd h0 hne)⟩
  | chunk =>
    have hp := hpos (by rw [hn]; decide)
    have hs := h.size0 (.inr hn)
    show ZeroR (chunkF r)
    unfold chunkF
    split
    · exact h
    · split
      · split
        · exact doneF_zero
        · have hu : 0 < r.chunked.used := by simp only [Rd.chunked]; omega
          have hne : r.chunked.used ≠ 0 := by omega
          exact ⟨Int.le_of_lt hu, (fun h => by rcases h with h | h <;> cases h), (fun h => by cases h), (fun h0 => absurd h0 hne)⟩
      · trivial
theorem goF_zero : ∀ (n : Nat) (r : Rd), Zero r → ∀ r', (goF n r).2 = some r' → Zero r'
  | 0, r, h, r', hr => by
    simp only [goF, Option.some.injEq] at hr
    subst hr
    exact ⟨h.used0, h.size0, h.live, h.zero⟩
  | n + 1, r, h, r', hr => by
    rw [goF_succ] at hr
    have hs := stepF_zero h
    revert hs hr
    cases stepF r with
    | more a => exact fun hr hs => goF_zero n a hs r' hr
    | wait a =>
      intro hr hs
      simp only [Option.some.injEq] at hr
      subst hr
      have hs' : Zero a := hs
      exact ⟨hs'.used0, hs'.size0, hs'.live, hs'.zero⟩
    | over l => intro hr hs; cases hr
theorem Zero.new (x : List UInt8) : Zero (Rd.new.ext x) := ⟨Int.le_refl _, (fun h => by rcases h with h | h <;> cases h), (fun h => by cases h), fun _ => ⟨rfl, rfl, rfl, rfl, rfl, rfl⟩⟩
theorem goF_told0 : ∀ (n : Nat) (r : Rd), ∀ r', (goF n r).2 = some r' → r'.told = []
  | 0, r, r', hr => by
    simp only [goF, Option.some.injEq] at hr
    subst hr; rfl
  | n + 1, r, r', hr => by
    rw [goF_succ] at hr
    revert hr
    cases stepF r with
    | more a => exact fun hr => goF_told0 n a r' hr
    | wait a =>
      intro hr
      simp only [Option.some.injEq] at hr
      subst hr; rfl
    | over l => intro hr; cases hr
/-- What is left of a reader that has read all: one to which no bytes came. -/
theorem feed_left {x : List UInt8} {r' : Rd} (h : (feedF Rd.new x).2 = some r') (h0 : r'.used + r'.wait.length = 0) : Sim Rd.new r' := by
  have hz := goF_zero _ _ (Zero.new x) r' h
  have ht := goF_told0 _ _ r' h
  have hu := hz.used0
  have hw : r'.wait = [] := List.eq_nil_of_length_eq_zero (by omega)
  obtain ⟨a, b, c, d, e, f⟩ := hz.zero (by omega)
  refine .inr ⟨.inl rfl, r'.size, ?_⟩
  have hu0 : r'.used = 0 := by omega
  cases r' with
  | mk wait used nx q head lines old body size told =>
    simp only at a b c d e f hw ht hu0
    subst a b c d e f hw ht hu0
    rfl
/-- What is printed: bytes of which just a request is told, and none waits. -/
def Prints (t : List UInt8) (q : S24) : Prop := (feedF Rd.new t).1 = [⟨q, 0⟩] ∧ ∀ r', (feedF Rd.new t).2 = some r' → r'.used + r'.wait.length = 0
theorem Prints.keep {t : List UInt8} {q : S24} (h : Prints t q) : match (feedF Rd.new t).2 with | some r' => q.f4 = true ∧ Sim Rd.new r' | none => q.f4 = false := by
  have hk := goF_kept ((Rd.new.ext t).mu + 1) (Rd.new.ext t) (fun e he => by cases he)
  change (match (feedF Rd.new t).2 with | some _ => Kept (feedF Rd.new t).1 | none => Last (feedF Rd.new t).1) at hk
  rw [h.1] at hk
  cases ho : (feedF Rd.new t).2 with
  | none =>
    rw [ho] at hk
    obtain ⟨l', e, he, _, hb⟩ := hk
    cases l' with
    | nil =>
      simp only [List.nil_append, List.cons.injEq, and_true] at he
      subst he
      rcases hb with hb | hb
      · exact absurd rfl hb
      · exact hb
    | cons a bs => cases bs <;> simp at he
  | some r' =>
    rw [ho] at hk
    exact ⟨(hk _ (List.mem_singleton.2 rfl)).2, feed_left ho (h.2 r' ho)⟩
/-- The requests up to the first that is not kept. -/
def upTo : List S24 → List S53
  | [] => []
  | q :: l => ⟨q, 0⟩ :: (if q.f4 then upTo l else [])
def BackAt (s : Option Rd) (l : List S24) : Prop := match s with
  | some r => Sim Rd.new r ∧ ∀ q ∈ l, q.f4 = true
  | none => ∃ q ∈ l, q.f4 = false
theorem feed_back : ∀ (l : List (List UInt8 × S24)) (N : Nat) (r : Rd), (∀ p ∈ l, Prints p.1 p.2) → Sim Rd.new r → Fd N r → N + (l.flatMap (·.1)).length ≤ 1000000000 →
    (feedS (some r) (l.flatMap (·.1))).1 = upTo (l.map (·.2)) ∧ BackAt (feedS (some r) (l.flatMap (·.1))).2 (l.map (·.2))
  | [], N, r, _, hs, _, _ => by
    have h1 := feedF_sim hs []
    have h2 : feedF Rd.new [] = ([], some Rd.new) := feed_none
    rw [h2] at h1
    refine ⟨h1.1.symm, ?_⟩
    show BackAt (feedF r []).2 []
    cases ho : (feedF r []).2 with
    | none => rw [ho] at h1; exact h1.2.elim
    | some r' =>
      rw [ho] at h1
      exact ⟨h1.2, fun q hq => by cases hq⟩
  | p :: l, N, r, hp, hs, hf, hN => by
    have hpp := hp p (List.mem_cons_self ..)
    simp only [List.flatMap_cons, List.length_append] at hN ⊢
    rw [feedS_append (s := some r) (N := N) hf]
    have h1 := feedF_sim hs p.1
    have hk := hpp.keep
    have hF := (Fd.feed hf p.1 (by omega)).2
    show (feedF r p.1).1 ++ (feedS (feedF r p.1).2 _).1 = _ ∧ BackAt (feedS (feedF r p.1).2 _).2 _
    cases ho : (feedF r p.1).2 with
    | none =>
      cases hn : (feedF Rd.new p.1).2 with
      | some r' => rw [ho, hn] at h1; exact h1.2.elim
      | none =>
        rw [hn] at hk
        refine ⟨?_, p.2, List.mem_cons_self .., hk⟩
        rw [← h1.1, hpp.1]
        show [_] ++ [] = _
        have hk' : p.2.f4 = false := hk
        simp [upTo, hk']
    | some r1 =>
      cases hn : (feedF Rd.new p.1).2 with
      | none => rw [ho, hn] at h1; exact h1.2.elim
      | some r' =>
        rw [hn] at hk
        rw [ho, hn] at h1
        obtain ⟨hk1, hk2⟩ := hk
        obtain ⟨i1, i2⟩ := feed_back l (N + p.1.length) r1 (fun x hx => hp x (List.mem_cons_of_mem _ hx)) (hk2.trans h1.2) (hF r1 ho) (by omega)
        refine ⟨?_, ?_⟩
        · rw [← h1.1, hpp.1, i1]
          have hk' : p.2.f4 = true := hk1
          simp [upTo, hk']
        · revert i2
          cases (feedS (some r1) (l.flatMap (·.1))).2 with
          | none =>
            rintro ⟨q, hq, hq4⟩
            exact ⟨q, List.mem_cons_of_mem _ hq, hq4⟩
          | some r2 =>
            rintro ⟨a, b⟩
            exact ⟨a, fun q hq => by
              rcases List.mem_cons.1 hq with hq | hq
              · rw [hq]; exact hk1
              · exact b q hq⟩
end Go.Proofs.YtafhkpnmolfjeaaGreatDoor.Rq
