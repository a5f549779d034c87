/- Walk of the reader's first. -/
import Derived.Test.YtafhkpnmolfjeaaGreatDoorRq1
import Derived.Test.YtafhkpnmolfjeaaGreatDoorRqV
set_option linter.unusedVariables false
set_option linter.unusedSimpArgs false
namespace Go.Proofs.YtafhkpnmolfjeaaGreatDoor.Rq
open Go.RowKit Go.Proofs.YtafhkpnmolfjeaaGreatDoorW.PrintWords Go.Proofs.YtafhkpnmolfjeaaGreatDoor.PRequestBack

/-- A text cut at its first two blanks. -/
def parts3 (s : ByteArray) : List ByteArray := Lib.splitB ⟨#[32]⟩ 0 (min 3 (s.size + 1) - 1) s
theorem parts3_len (s : ByteArray) : (parts3 s).length ≤ 3 := by
  have := Lib.splitB_length_le ⟨#[32]⟩ 0 (min 3 (s.size + 1) - 1) s
  unfold parts3
  omega
theorem split3_calls (s : ByteArray) (w : World) {mx : Int} (hm : w.cell? ⟨1, 0, none⟩ = some (.int .i64 mx)) (hs : s.size < 4294967281) :
    Calls Tryz.prog 66 #[.string s, .string ⟨#[32]⟩, .int .i64 3] w fun e w' => ∃ c, e = .returned (.slice (some ⟨w.heap.size, 0, none⟩) (parts3 s).length c) ∧ Below w.heap.size w w' ∧ (∀ i x, (parts3 s)[i]? = some x → w'.cell? ⟨w.heap.size, i, none⟩ = some (.string x)) := by
  refine (Tryz.strings_SplitN s ⟨#[32]⟩ 3 mx w hs hm (by decide) (by omega) (by omega)).mono ?_
  rintro e w' ⟨rfl, rfl⟩
  refine ⟨_, rfl, (Below.refl _ _).alloc (Nat.le_refl _) _, fun i x hx => ?_⟩
  rw [new_cell]
  have hl := (List.getElem?_eq_some_iff.1 hx).1
  have : ((parts3 s).map Value.string ++ List.replicate (min 3 (s.size + 1) - (parts3 s).length) (Value.string ByteArray.empty))[i]? = some (.string x) := by
    rw [List.getElem?_append_left (by simpa using hl), List.getElem?_map, hx]; rfl
  simpa [Lib.cellsOf, parts3] using this
def slash : ByteArray := ⟨#[47]⟩
def goodFirst (a b : ByteArray) : Bool := !decide (a.size < 1) && !decide (8 < a.size) && visB 65 90 a && Lib.hasPrefix b.data.toList slash.data.toList && visB 33 126 b

set_option maxRecDepth 100000 in
set_option maxHeartbeats 800000 in
theorem first_short (p : Option Addr) (s : ByteArray) (w : World) {mx : Int} (hm : w.cell? ⟨1, 0, none⟩ = some (.int .i64 mx)) (hs : s.size < 4294967281) (hb : (parts3 s).length < 3) :
    Calls Tryz.prog 105 #[.pointer p, .string s] w fun e w' => e = .returned (.bool false) ∧ Below w.heap.size w w' := by
  have HM := Aside0.mk hm
  clear hm
  have hd : decide (((parts3 s).length : Int) < 3) = true := by simp; omega
  go_enter Tryz.func105, Tryz.ntmps105
  go_wp2_with fail
  refine (split3_calls s w HM.out hs).mono ?_
  rintro e w1 ⟨c, rfl, hB, hc⟩
  have HB := Aside0.mk hB
  clear hB hc
  go_wp2_with fail
  go_ret
  exact ⟨rfl, HB.out⟩
set_option maxRecDepth 100000 in
set_option maxHeartbeats 800000 in
theorem first_bad (p : Option Addr) (s : ByteArray) (w : World) {mx : Int} (hm : w.cell? ⟨1, 0, none⟩ = some (.int .i64 mx)) (hs : s.size < 4294967281) (a b d : ByteArray) (hp : parts3 s = [a, b, d]) (hb : goodFirst a b = false) :
    Calls Tryz.prog 105 #[.pointer p, .string s] w fun e w' => e = .returned (.bool false) ∧ Below w.heap.size w w' := by
  have HM := Aside0.mk hm
  have HP := Aside0.mk hp
  clear hm hp
  simp only [goodFirst] at hb
  go_enter Tryz.func105, Tryz.ntmps105
  go_wp2_with fail
  refine (split3_calls s w HM.out hs).mono ?_
  rw [HP.out]
  rintro e w1 ⟨c, rfl, hB, hc⟩
  have c0 := hc 0 a rfl
  have c1 := hc 1 b rfl
  have HB := Aside0.mk hB
  clear hB hc
  by_cases h1 : a.size < 1
  · go_wp2_with fail
    go_ret
    exact ⟨rfl, HB.out⟩
  by_cases h2 : 8 < a.size
  · go_wp2_with fail
    go_ret
    exact ⟨rfl, HB.out⟩
  go_wp2_with fail
  refine (visible_calls 65 90 65 90 rfl rfl (by decide) (by decide) a _).mono ?_
  rintro e w2 ⟨rfl, hB2⟩
  replace c1 := pw_cell_below hB2 c1
  have HB2 := Aside0.mk (HB.out.trans (hB2.mono HB.out.size))
  clear hB2 HB
  cases h3 : visB 65 90 a
  · go_wp2_with fail
    go_ret
    exact ⟨rfl, HB2.out⟩
  go_wp2_with fail
  refine (Tryz.strings_HasPrefix b slash _).mono ?_
  rintro e w3 ⟨rfl, hw3⟩
  subst hw3
  cases h4 : Lib.hasPrefix b.data.toList slash.data.toList
  · go_wp2_with fail
    go_ret
    exact ⟨rfl, HB2.out⟩
  go_wp2_with fail
  refine (visible_calls 33 126 33 126 rfl rfl (by decide) (by decide) b _).mono ?_
  rintro e w4 ⟨rfl, hB4⟩
  have HB4 := Aside0.mk (HB2.out.trans (hB4.mono HB2.out.size))
  clear hB4 HB2
  have h5 : visB 33 126 b = false := by simpa [h1, h2, h3, h4] using hb
  go_wp2_with fail
  go_ret
  exact ⟨rfl, HB4.out⟩

def is10 (d : ByteArray) : Bool := d.toList == [72, 84, 84, 80, 47, 49, 46, 48]
def is11 (d : ByteArray) : Bool := d.toList == [72, 84, 84, 80, 47, 49, 46, 49]
set_option maxRecDepth 100000 in
set_option maxHeartbeats 800000 in
theorem first_good {w : World} {S : Nat → Prop} {g : Nat} {r : Rd} {vw vh vb vt : Value} {T : Nat → Prop} (h : RdAt w S g r vw vh vb vt T) (s : ByteArray) {mx : Int} (hm : w.cell? ⟨1, 0, none⟩ = some (.int .i64 mx)) (hs : s.size < 4294967281) (a b d : ByteArray) (hp : parts3 s = [a, b, d]) (hb : goodFirst a b = true) :
    Calls Tryz.prog 105 #[.pointer (some ⟨g, 0, none⟩), .string s] w fun e w' => e = .returned (.bool (is10 d || is11 d)) ∧ Frame (fun k => k = g) w w' ∧ RdAt w' S g { r with q := { r.q with f0 := a, f1 := b }, old := is10 d || r.old } vw vh vb vt T := by
  have HM := Aside0.mk hm
  have HP := Aside0.mk hp
  have H := Aside0.mk h
  clear hm hp h
  simp only [goodFirst, Bool.and_eq_true, Bool.not_eq_true', decide_eq_false_iff_not] at hb
  obtain ⟨⟨⟨⟨h1, h2⟩, h3⟩, h4⟩, h5⟩ := hb
  go_enter Tryz.func105, Tryz.ntmps105
  go_wp2_with fail
  refine (split3_calls s w HM.out hs).mono ?_
  rw [HP.out]
  rintro e w1 ⟨c, rfl, hB, hc⟩
  have c0 := hc 0 a rfl
  have c1 := hc 1 b rfl
  have c2 := hc 2 d rfl
  have HB := Aside0.mk hB
  clear hB hc
  go_wp2_with fail
  refine (visible_calls 65 90 65 90 rfl rfl (by decide) (by decide) a _).mono ?_
  rintro e w2 ⟨rfl, hB2⟩
  replace c0 := pw_cell_below hB2 c0
  replace c1 := pw_cell_below hB2 c1
  replace c2 := pw_cell_below hB2 c2
  have HB2 := Aside0.mk (HB.out.trans (hB2.mono HB.out.size))
  clear hB2 HB
  go_wp2_with fail
  refine (Tryz.strings_HasPrefix b slash _).mono ?_
  rintro e w3 ⟨rfl, hw3⟩
  subst hw3
  go_wp2_with fail
  refine (visible_calls 33 126 33 126 rfl rfl (by decide) (by decide) b _).mono ?_
  rintro e w4 ⟨rfl, hB4⟩
  replace c0 := pw_cell_below hB4 c0
  replace c1 := pw_cell_below hB4 c1
  replace c2 := pw_cell_below hB4 c2
  have HB4 := Aside0.mk (HB2.out.trans (hB4.mono HB2.out.size))
  clear hB4 HB2
  have H4 := Aside0.mk (H.out.move HB4.out.size (fun k _ hk => HB4.out.block k hk))
  have hgl := H.out.lt
  have hn1 : ¬ (w.heap.size = g) := by omega
  have hn2 : ¬ (g = w.heap.size) := by omega
  clear H hgl
  generalize w.heap.size = B at c0 c1 c2 hn1 hn2 ⊢
  have k3 := cell_of_heap H4.out.cells 3 (.string r.q.f0) rfl
  have k4 := cell_of_heap H4.out.cells 4 (.string r.q.f1) rfl
  have k10 := cell_of_heap H4.out.cells 10 (.bool r.old) rfl
  have f3 := frozen_of_heap H4.out.cells 3
  have f4 := frozen_of_heap H4.out.cells 4
  have f10 := frozen_of_heap H4.out.cells 10
  go_wp2_with fail
  go_region
  have fin : ∀ (W : World) (o : Bool), Chg g 56 w4 W (cellsRd g { r with q := { r.q with f0 := a, f1 := b }, old := o } vw vh vb vt) → Frame (fun k => k = g) w W ∧ RdAt W S g { r with q := { r.q with f0 := a, f1 := b }, old := o } vw vh vb vt T := fun W o hc =>
    ⟨(Frame.of_below HB4.out).trans hc.frame, H4.out.turn hc.heap hc.frame.size hc.same H4.out.wait (fun _ hk => hk) rfl rfl rfl⟩
  have FIN := Aside0.mk fin
  clear fin
  cases d10 : is10 d
  · have D10 := Aside0.mk d10
    simp only [is10] at d10
    cases d11 : is11 d
    · have D11 := Aside0.mk d11
      simp only [is11] at d11
      go_wp2_with fail
      go_ret
      refine ⟨by rw [D10.out, D11.out]; rfl, FIN.out _ (is10 d || r.old) ?_⟩
      apply Chg.cast
      · repeat (first | (with_reducible apply Chg.drew) | (with_reducible apply Chg.put) | exact Chg.start H4.out.cells)
      · simp [cellsRd, D10.out]
    · have D11 := Aside0.mk d11
      simp only [is11] at d11
      go_wp2_with fail
      go_ret
      refine ⟨by rw [D10.out, D11.out]; rfl, FIN.out _ (is10 d || r.old) ?_⟩
      apply Chg.cast
      · repeat (first | (with_reducible apply Chg.drew) | (with_reducible apply Chg.put) | exact Chg.start H4.out.cells)
      · simp [cellsRd, D10.out]
  · have D10 := Aside0.mk d10
    simp only [is10] at d10
    go_wp2_with fail
    go_ret
    refine ⟨by rw [D10.out]; rfl, FIN.out _ (is10 d || r.old) ?_⟩
    apply Chg.cast
    · repeat (first | (with_reducible apply Chg.drew) | (with_reducible apply Chg.put) | exact Chg.start H4.out.cells)
    · simp [cellsRd, D10.out]
end Go.Proofs.YtafhkpnmolfjeaaGreatDoor.Rq
