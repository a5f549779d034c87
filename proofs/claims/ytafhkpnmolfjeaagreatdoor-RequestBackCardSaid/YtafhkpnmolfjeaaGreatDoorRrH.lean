/- Walks of strings.Builder: copyCheck, WriteString, String. -/
import Derived.Test.YtafhkpnmolfjeaaGreatDoorRrF
import Derived.Lib.Builder
import Derived.Lib.FrozenHead
import Derived.Lib.UnsafeStr
import Derived.Laws.Externs
set_option linter.unusedVariables false
set_option linter.unusedSimpArgs false
namespace Go.Proofs.YtafhkpnmolfjeaaGreatDoor.Rq
open Go.RowKit Go.Proofs.YtafhkpnmolfjeaaGreatDoorW.PrintWords Go.Proofs.YtafhkpnmolfjeaaGreatDoor.PRequestBack

theorem info99 : (Tryz.prog.info? 99).map (·.size) = some 2 := by kernel_rfl
theorem lies99 : liesAt Tryz.prog Tryz.prog.depth 99 (2 / Tryz.prog.cellsOf 99) 0 99 1 = true := by kernel_rfl
set_option maxRecDepth 100000 in
set_option maxHeartbeats 400000 in
theorem copyCheck_used (b : Nat) (w : World) (h0 : w.cell? ⟨b, 0, none⟩ = some (.pointer (some ⟨b, 0, none⟩))) :
    Calls Tryz.prog 76 #[.pointer (some ⟨b, 0, none⟩)] w fun e w' => e = .returned (.tuple #[]) ∧ w' = w := by
  obtain ⟨j, hj, _⟩ := Option.map_eq_some_iff.1 info99
  have e1 := Lib.run_neq_ptr_same (P := Tryz.prog) w ⟨b, 0, none⟩ Tryz.underlying97 hj
  clear hj
  go_enter Tryz.func76, Tryz.ntmps76
  go_wp2_with fail
  go_end0
  exact ⟨rfl, rfl⟩
set_option maxRecDepth 100000 in
set_option maxHeartbeats 400000 in
theorem copyCheck_fresh (b : Nat) (w : World) (h0 : w.cell? ⟨b, 0, none⟩ = some (.pointer none)) (hsh : w.shape? b = some (99, 2)) (hfz : w.frozen? ⟨b, 0, none⟩ = false) :
    Calls Tryz.prog 76 #[.pointer (some ⟨b, 0, none⟩)] w fun e w' => e = .returned (.tuple #[]) ∧ w' = w.setCell ⟨b, 0, none⟩ (.pointer (some ⟨b, 0, none⟩)) := by
  obtain ⟨j, hj, hjs⟩ := Option.map_eq_some_iff.1 info99
  have e1 := Lib.run_to_unsafe (P := Tryz.prog) w ⟨b, 0, none⟩ Tryz.underlying97 Tryz.underlying147 hj (by rw [hjs]; decide) hsh (Nat.zero_lt_succ 1)
  have e2 := Lib.run_from_unsafe (P := Tryz.prog) w ⟨b, 0, none⟩ Tryz.underlying147 Tryz.underlying97 hj hsh lies99
  clear hj hjs hsh
  go_enter Tryz.func76, Tryz.ntmps76
  go_wp2_with fail
  rw [run_callFunc_extern Tryz.func108 (by kernel_rfl) (by kernel_rfl) (by kernel_rfl) (e := Extern.AbiNoEscape.same) (by kernel_rfl)]
  rw [Lib.run_noEscape]
  simp only [Result.andThen]
  rw [Oper.upon_value]
  go_wp2_with fail
  go_end0
  exact ⟨rfl, rfl⟩
/-- A builder of the call's own that holds bytes. -/
def SbAt (w : World) (base b : Nat) (xs : List UInt8) : Prop := Lib.IsBuilder 99 5 base b (nums .u8 (ints xs)) w
theorem SbAt.fresh (w : World) : SbAt (w.alloc (.cells #[.pointer none, .slice none 0 0] 99)) w.heap.size w.heap.size [] := Lib.fresh_isBuilder 99 5 w
theorem copyCheck_calls {w : World} {base b : Nat} {xs : List UInt8} (h : SbAt w base b xs) :
    Calls Tryz.prog 76 #[.pointer (some ⟨b, 0, none⟩)] w fun e w' => e = .returned (.tuple #[]) ∧ Lib.BuilderAt 99 5 base b (.pointer (some ⟨b, 0, none⟩)) (nums .u8 (ints xs)) w' ∧ Below base w w' := by
  rcases h with h | h
  · refine (copyCheck_fresh b w h.cell0 h.shape h.frozen0).mono ?_
    rintro e w' ⟨rfl, rfl⟩
    exact ⟨rfl, h.used _, (Below.refl base w).setCell (p := ⟨b, 0, none⟩) h.1 _⟩
  · refine (copyCheck_used b w h.cell0).mono ?_
    rintro e w' ⟨rfl, rfl⟩
    exact ⟨rfl, h, Below.refl base _⟩
set_option maxRecDepth 100000 in
set_option maxHeartbeats 800000 in
theorem writeString_calls {w : World} {base b : Nat} {xs : List UInt8} (h : SbAt w base b xs) (s : List UInt8) (hl : xs.length + s.length ≤ 1000000000) (hb : base ≤ w.heap.size) :
    Calls Tryz.prog 46 #[.pointer (some ⟨b, 0, none⟩), .string (str s)] w fun e w' => e = .returned (.tuple #[.int .i64 s.length, .nilIface]) ∧ SbAt w' base b (xs ++ s) ∧ Below base w w' := by
  have H := Aside0.mk h
  obtain ⟨i0, hi, hzz⟩ := Option.map_eq_some_iff.1 info5
  simp only [Prod.mk.injEq] at hzz
  obtain ⟨hz0, hz1, hz2⟩ := hzz
  have I := Aside0.mk (And.intro hi (And.intro hz0 (And.intro hz1 hz2)))
  have hsz := str_size s
  clear h hi hz0 hz1 hz2
  obtain ⟨t, ht⟩ : ∃ t, t = str s := ⟨_, rfl⟩
  rw [← ht] at hsz ⊢
  have TS := Aside0.mk ht
  have SZ := Aside0.mk hsz
  clear ht hsz
  go_enter Tryz.func46, Tryz.ntmps46
  go_wp2_with fail
  refine (copyCheck_calls H.out).mono ?_
  rintro e w1 ⟨rfl, h1, hb1⟩
  obtain ⟨hB, v, hbk, hown, hne⟩ := h1
  have c0 : w1.cell? ⟨b, 0, none⟩ = some (.pointer (some ⟨b, 0, none⟩)) := by rw [Lib.cell_of_heap hbk]; rfl
  have c1 : w1.cell? ⟨b, 1, none⟩ = some v := by rw [Lib.cell_of_heap hbk]; rfl
  have hlt : b < w1.heap.size := (Array.getElem?_eq_some_iff.1 hbk).1
  have Z := Aside0.mk (And.intro hB (And.intro hbk (And.intro hown (And.intro hne (And.intro hb1 hlt)))))
  clear hB hbk hown hne hb1 hlt
  go_wp2_with (at_builtin; refine Lib.wpList_append_own_string _ rfl _ _ 40 9 rfl base 5 i0 Tryz.underlying40 Tryz.underlying9 I.out.1 I.out.2.1 I.out.2.2.1 I.out.2.2.2 _ _ _ rfl Z.out.2.2.1 t rfl ?c3 ?c4 ?c5 ?_)
  case c3 => rw [nums_length, ints_length, SZ.out]; unfold maxLen; omega
  case c4 => rw [nums_length, ints_length, SZ.out]; omega
  case c5 => have := Z.out.2.2.2.2.1.size; omega
  intro v' w2 hown' hgrow _
  obtain ⟨hB, hbk, hown, hne, hb1, hlt⟩ := Z.out
  have hb2 : w2.heap[b]? = some (.cells #[.pointer (some ⟨b, 0, none⟩), v] 99 (0, 0)) := by
    rw [hgrow.block b hlt (fun e => hne e.symm)]
    exact hbk
  have d0 : w2.cell? ⟨b, 0, none⟩ = some (.pointer (some ⟨b, 0, none⟩)) := by rw [Lib.cell_of_heap hb2]; rfl
  have d1 : w2.cell? ⟨b, 1, none⟩ = some v := by rw [Lib.cell_of_heap hb2]; rfl
  have f1 : w2.frozen? ⟨b, 1, none⟩ = false := Lib.frozen_of_heap hb2 1
  obtain ⟨ao, n', cap, rfl⟩ : ∃ ao n' cap, v' = .slice ao n' cap := by
    rcases hown'.2 with ⟨hv, _⟩ | ⟨g, cap, cur, hv, _⟩
    · exact ⟨_, _, _, hv⟩
    · exact ⟨_, _, _, hv⟩
  have Y := Aside0.mk (And.intro hb2 (And.intro hown' hgrow))
  clear hB hbk hown hne hb1 hlt hb2 hown' hgrow
  go_wp2_with fail
  go_ret2
  obtain ⟨hB, hbk, hown, hne, hb1, hlt⟩ := Z.out
  obtain ⟨hb2, hown', hgrow⟩ := Y.out
  refine ⟨by rw [SZ.out]; rfl, .inr ?_, ?_⟩
  · rw [TS.out, strCells_nums, str_size, ← nums_append, ← ints_append] at hown'
    refine Lib.BuilderAt.put (T := 99) (e := 5) hB hb2 (bs' := nums .u8 (ints (xs ++ s))) ?_ (by decide)
    have e : (nums .u8 (ints xs)).length + s.length = (nums .u8 (ints (xs ++ s))).length := by rw [nums_length, nums_length, ints_length, ints_length, List.length_append]
    rw [e] at hown'
    exact hown'
  · exact (hb1.grown hgrow (by have := hb1.size; omega) (fun k hk => (hown.lt k hk).1)).setCell (p := ⟨b, 1, none⟩) hB _
/-- The bytes of a builder that are read, whatever is frozen of them; they lie in block g. -/
structure SbRd (w : World) (b g : Nat) (xs : List UInt8) : Prop where
  ex : ∃ p cap C fr, w.heap[b]? = some (.cells #[p, .slice (some ⟨g, 0, none⟩) xs.length cap] 99 (0, 0)) ∧ w.heap[g]? = some (.cells C 5 fr) ∧ (xs.length ≤ C.size ∧ xs.length ≤ cap) ∧ ∀ (j : Nat) (x : UInt8), xs[j]? = some x → C[j]? = some (.int .u8 x.toNat)
theorem SbAt.rd {w : World} {base b : Nat} {xs : List UInt8} (h : SbAt w base b xs) (h0 : xs ≠ []) : b < w.heap.size ∧ ∃ g, base ≤ g ∧ g < w.heap.size ∧ SbRd w b g xs := by
  obtain ⟨p, hB, v, hbk, hown, hne⟩ : ∃ p, Lib.BuilderAt 99 5 base b p (nums .u8 (ints xs)) w := by
    rcases h with h | h
    · exact ⟨_, h⟩
    · exact ⟨_, h⟩
  refine ⟨(Array.getElem?_eq_some_iff.1 hbk).1, ?_⟩
  rw [nums_length, ints_length] at hown
  rcases hown.2 with ⟨_, hz⟩ | ⟨g, cap, cur, rfl, hg, hh, hnc, hcm, hcs, ht⟩
  · exact absurd (List.eq_nil_of_length_eq_zero hz) h0
  · refine ⟨g, hg, (Array.getElem?_eq_some_iff.1 hh).1, p, cap, cur, (0, 0), hbk, hh, ⟨by omega, hnc⟩, fun j x hx => ?_⟩
    have hj := (List.getElem?_eq_some_iff.1 hx).1
    rw [Nat.mul_one] at ht
    have h1 : (cur.toList.take xs.length)[j]? = some (.int .u8 x.toNat) := by
      rw [ht]; simp [nums, ints, hx]
    rw [List.getElem?_take, if_pos hj, Array.getElem?_toList] at h1
    exact h1
theorem SbRd.lt {w : World} {b g : Nat} {xs : List UInt8} (h : SbRd w b g xs) : b < w.heap.size ∧ g < w.heap.size := by
  obtain ⟨p, cap, C, fr, h1, h2, _⟩ := h
  exact ⟨(Array.getElem?_eq_some_iff.1 h1).1, (Array.getElem?_eq_some_iff.1 h2).1⟩
theorem SbRd.move {w w' : World} {b g : Nat} {xs : List UInt8} (h : SbRd w b g xs) (hb : w'.heap[b]? = w.heap[b]?) (hg : w'.heap[g]? = w.heap[g]?) : SbRd w' b g xs := by
  obtain ⟨p, cap, C, fr, h1, h2, h3⟩ := h
  exact ⟨p, cap, C, fr, hb.trans h1, hg.trans h2, h3⟩
theorem freeze_heap {w : World} {g : Nat} {C : Array Value} {fr : Nat × Nat} (h : w.heap[g]? = some (.cells C 5 fr)) (n : Nat) : ∃ fr', (w.freeze ⟨g, 0, none⟩ n).heap[g]? = some (.cells C 5 fr') ∧ ∀ k, k ≠ g → (w.freeze ⟨g, 0, none⟩ n).heap[k]? = w.heap[k]? := by
  unfold World.freeze
  split
  · exact ⟨fr, h, fun _ _ => rfl⟩
  · obtain ⟨lo, hi⟩ := fr
    refine ⟨_, by simp [Array.getElem?_modify, h]; rfl, fun k hk => ?_⟩
    simp only [Array.getElem?_modify]
    rw [if_neg (fun e => hk e.symm)]
theorem cells5'' : Tryz.prog.cellsOf 5 = 1 := by kernel_rfl
theorem freeze_frame (w : World) (g n : Nat) : Frame (fun k => k = g) w (w.drew.freeze ⟨g, 0, none⟩ n) := by
  unfold World.freeze
  split
  · exact (Frame.refl _ w).drew
  · refine ⟨rfl, rfl, rfl, by simp, fun k hk hn => ?_⟩
    simp only [Array.getElem?_modify]
    rw [if_neg (fun e => hn e.symm)]
    rfl
set_option maxRecDepth 100000 in
set_option maxHeartbeats 800000 in
theorem string_calls {w : World} {b g : Nat} {xs : List UInt8} (h : SbRd w b g xs) (h0 : xs ≠ []) (hl : xs.length ≤ 1000000000) :
    Calls Tryz.prog 47 #[.pointer (some ⟨b, 0, none⟩)] w fun e w' => e = .returned (.string (str xs)) ∧ SbRd w' b g xs ∧ Frame (fun k => k = g) w w' := by
  obtain ⟨p, cap, C, fr, hbk, hh, hn, hc⟩ := h
  have hl0 : xs.length ≠ 0 := by simpa using h0
  have c1 : w.drew.cell? ⟨b, 1, none⟩ = some (.slice (some ⟨g, 0, none⟩) xs.length cap) := by
    have : w.drew.heap[b]? = some (.cells #[p, .slice (some ⟨g, 0, none⟩) xs.length cap] 99 (0, 0)) := hbk
    rw [Lib.cell_of_heap this]; rfl
  have hSD : (Builtin.unsafeSliceData_ #[40] 128 #[.slice (some ⟨g, 0, none⟩) xs.length cap]).run Tryz.prog w.drew = .ok (.pointer (some ⟨g, 0, none⟩)) w.drew :=
    Lib.run_unsafeSliceData_row _ _ _ _ _ _ (by omega)
  have hUS : (Builtin.unsafeString_ #[128, 3] 9 #[.pointer (some ⟨g, 0, none⟩), .int .i64 xs.length]).run Tryz.prog w.drew = .ok (.string (str xs)) (w.drew.freeze ⟨g, 0, none⟩ xs.length) := by
    refine Lib.run_unsafeString_row w.drew 128 3 9 5 Tryz.underlying128 cells5'' g C.size (by have hg' : w.drew.heap[g]? = some (.cells C 5 fr) := hh; simp [World.shape?, hg']) xs h0 hn.1 (by omega) ?_
    intro j x hx
    have hg' : w.drew.heap[g]? = some (.cells C 5 fr) := hh
    rw [add_at, Nat.zero_add]
    simp [World.cell?, hg', hc j x hx]
  have Z := Aside0.mk (And.intro hbk (And.intro hh (And.intro hn hc)))
  obtain ⟨t, ht⟩ : ∃ t, t = str xs := ⟨_, rfl⟩
  rw [← ht] at hUS ⊢
  clear hbk hh hn hc ht
  go_enter Tryz.func47, Tryz.ntmps47
  go_wp2_with fail
  go_region
  all_goals
    go_wp2_with fail
    go_ret
    obtain ⟨hbk, hh, hn, hc⟩ := Z.out
    obtain ⟨fr', hf1, hf2⟩ := freeze_heap (w := w.drew) hh xs.length
    have hgb : b ≠ g := fun e => by rw [e, hh] at hbk; injection hbk with hbk; injection hbk with _ h2; cases h2
    exact ⟨rfl, ⟨p, cap, C, fr', (hf2 b hgb).trans hbk, hf1, hn, hc⟩, freeze_frame w g _⟩
end Go.Proofs.YtafhkpnmolfjeaaGreatDoor.Rq
