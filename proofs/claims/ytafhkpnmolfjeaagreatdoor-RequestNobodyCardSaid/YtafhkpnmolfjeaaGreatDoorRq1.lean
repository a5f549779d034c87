/- Walks of the reader's small methods. -/
import Derived.Test.YtafhkpnmolfjeaaGreatDoorRq0
import Derived.Outline
set_option linter.unusedVariables false
set_option linter.unusedSimpArgs false
namespace Go.Proofs.YtafhkpnmolfjeaaGreatDoor.Rq
open Go.RowKit Go.Proofs.YtafhkpnmolfjeaaGreatDoorW.PrintWords Go.Proofs.YtafhkpnmolfjeaaGreatDoor.PRequestBack

set_option maxRecDepth 100000 in
set_option maxHeartbeats 400000 in
theorem take_calls {w : World} {S : Nat → Prop} {g : Nat} {r : Rd} {vw vh vb vt : Value} {T : Nat → Prop} (h : RdAt w S g r vw vh vb vt T) (n : Int) (h0 : 0 ≤ n) (h1 : n ≤ r.wait.length) (hu0 : 0 ≤ r.used) (hu : r.used + n ≤ 4611686018427387904) :
    Calls Tryz.prog 131 #[.pointer (some ⟨g, 0, none⟩), .int .i64 n] w fun e w' => e = .returned (cutV vw 0 n.toNat) ∧ Frame (fun k => k = g) w w' ∧
      RdAt w' S g { r with wait := r.wait.drop n.toNat, used := r.used + n } (cutV vw n.toNat r.wait.length) vh vb vt T := by
  obtain ⟨Aw, cw, rfl, hw0⟩ := h.wait.sl
  have hw : isSl (.slice Aw r.wait.length cw) r.wait.length := ⟨Aw, cw, rfl, hw0⟩
  obtain ⟨A1, c1, e1, -⟩ := cutV_sl hw 0 n.toNat (by omega) (by omega)
  obtain ⟨A2, c2, e2, -⟩ := cutV_sl hw n.toNat r.wait.length (by omega) (Nat.le_refl _)
  have s1 := run_cut_h hw n h0 h1
  have s2 := run_cut_l hw n h0 h1
  rw [e1] at s1
  rw [e2] at s2
  have E1 := Aside0.mk e1
  have E2 := Aside0.mk e2
  clear e1 e2 hw0 hw
  have k0 := cell_of_heap h.cells 0 (.slice Aw r.wait.length cw) rfl
  have k1 := cell_of_heap h.cells 1 (.int .i64 r.used) rfl
  have f0 := frozen_of_heap h.cells 0
  have f1 := frozen_of_heap h.cells 1
  have H := Aside0.mk h
  clear h
  go_enter Tryz.func131, Tryz.ntmps131
  go_wp2
  go_ret
  refine ⟨by rw [E1.out]; simp, ((Frame.refl _ _).put 0 _).put 1 _, ?_⟩
  have hc := H.out.wait.cut n.toNat r.wait.length (by omega) (Nat.le_refl _)
  rw [List.take_length] at hc
  refine H.out.turn ?_ (by simp) (fun k hk _ => by rw [Below.heap_setCell _ _ _ _ hk, Below.heap_setCell _ _ _ _ hk]) hc (fun k hk => by rwa [cutV_block] at hk) rfl rfl rfl
  rw [heap_set (heap_set H.out.cells 0 _) 1 _, E2.out]
  simp [cellsRd]

/-- Where 13, 10 stands first; -1: nowhere. -/
def crlf (xs : List UInt8) : Int := Lib.index xs [13, 10]
theorem crlf_range : ∀ xs : List UInt8, -1 ≤ crlf xs ∧ crlf xs + 2 ≤ xs.length ∨ crlf xs = -1
  | [] => .inr (by simp [crlf, Lib.index])
  | x :: xs => by
    have ih := crlf_range xs
    unfold crlf at ih ⊢
    simp only [Lib.index]
    split
    · rename_i h
      have : [13, 10].length ≤ (x :: xs).length := (List.isPrefixOf_iff_prefix.1 h).length_le
      simp only [List.length_cons, List.length_nil] at this ⊢
      left; omega
    · split
      · exact .inr rfl
      · rename_i h
        have h' : ¬ Lib.index xs [13, 10] = -1 := by simpa using h
        simp only [List.length_cons]
        rcases ih with ih | ih
        · left; omega
        · exact absurd ih h'
theorem index_crlf {w1 : World} {Aw : Option Addr} {cw : Nat} {xs : List UInt8} {mx : Int} (hmx : w1.cell? ⟨1, 0, none⟩ = some (.int .i64 mx)) (h : Cut5 w1 (.slice Aw xs.length cw) xs) (hn : xs.length < 4294967281) (B : Nat)
    (h0 : w1.cell? ⟨B, 0, none⟩ = some (.int .u8 13)) (h1 : w1.cell? ⟨B, 1, none⟩ = some (.int .u8 10)) :
    Calls Tryz.prog 130 #[.slice Aw xs.length cw, .slice (some ⟨B, 0, none⟩) 2 2] w1 fun e w' => e = .returned (.int .i64 (crlf xs)) ∧ ∃ q, w' = w1.drewN q := by
  rcases Nat.eq_zero_or_pos xs.length with hz | hp
  · have : xs = [] := List.eq_nil_of_length_eq_zero hz
    subst this
    cases Aw with
    | none =>
      obtain ⟨A, c, hv, h2, h3, h4, _⟩ := h.sl
      injection hv with e1 _ e3
      obtain rfl : cw = 0 := by rw [e3]; exact h4 e1.symm
      refine (Tryz.bytes_Index_nil (some ⟨B, 0, none⟩) 2 2 w1 (by omega) (by omega)).mono ?_
      rintro e w' ⟨rfl, rfl⟩
      exact ⟨by simp [crlf, Lib.index], 0, rfl⟩
    | some a =>
      refine (Tryz.bytes_Index_at a ⟨B, 0, none⟩ 0 cw 2 2 [] [13, 10] mx w1 rfl rfl (by simp) (by simp) (by intro i hi; omega) ?_ (by omega) (by omega) (by omega) hmx).mono ?_
      · intro i hi
        match i, hi with
        | 0, _ => simpa [Addr.add] using h0
        | 1, _ => simpa [Addr.add] using h1
      · rintro e w' ⟨rfl, hq⟩
        exact ⟨by simp [crlf, Lib.bytesOf], hq⟩
  · obtain ⟨ad, c, hv, hle, hc⟩ := h.cell hp
    injection hv with e1 _ e3
    subst e1 e3
    refine (Tryz.bytes_Index_at ad ⟨B, 0, none⟩ xs.length cw 2 2 (ints xs) [13, 10] mx w1 (ints_length xs) rfl ?_ (by simp) hc ?_ hle hn (by omega) hmx).mono ?_
    · intro x hx
      simp only [ints, List.mem_map] at hx
      obtain ⟨y, _, rfl⟩ := hx
      have := y.toNat_lt
      omega
    · intro i hi
      match i, hi with
      | 0, _ => simpa [Addr.add] using h0
      | 1, _ => simpa [Addr.add] using h1
    · rintro e w' ⟨rfl, hq⟩
      exact ⟨by rw [bytesOf_ints]; simp [crlf, Lib.bytesOf], hq⟩

set_option maxRecDepth 100000 in
set_option maxHeartbeats 400000 in
theorem line_no {w : World} {S : Nat → Prop} {g : Nat} {r : Rd} {vw vh vb vt : Value} {T : Nat → Prop} {mx : Int} (hmx : w.cell? ⟨1, 0, none⟩ = some (.int .i64 mx)) (h : RdAt w S g r vw vh vb vt T) (most : Int) (hm0 : 0 ≤ most) (hm1 : most ≤ 65536) (hw : r.wait.length < 4294967281)
    (hi : crlf r.wait < 0 ∨ most < crlf r.wait + 2) :
    Calls Tryz.prog 103 #[.pointer (some ⟨g, 0, none⟩), .int .i64 most] w fun e w' => e = .returned (.tuple #[.slice none 0 0, .bool (decide (most ≤ r.wait.length)), .bool false]) ∧ Below w.heap.size w w' := by
  obtain ⟨Aw, cw, rfl, hw0⟩ := h.wait.sl
  have hcl := crlf_range r.wait
  have k0 := cell_of_heap h.cells 0 (.slice Aw r.wait.length cw) rfl
  have HW := Aside0.mk h.wait
  have HM := Aside0.mk hmx
  clear h hmx hw0
  have cv := conv40
  go_enter Tryz.func103, Tryz.ntmps103
  go_wp2_with fail
  refine (index_crlf (mx := mx) ?_ ?_ hw w.heap.size ?_ ?_).mono ?_
  · exact pw_cell_below ((Below.refl _ _).alloc (Nat.le_refl _) _) HM.out
  · exact HW.out.move fun k c _ hk => Below.heap_alloc _ _ _ (Array.getElem?_eq_some_iff.1 hk).1
  · exact new_cell _ _ _ _ 0
  · exact new_cell _ _ _ _ 1
  rintro e w1 ⟨rfl, q, rfl⟩
  clear cv
  generalize crlf r.wait = i at *
  have HB := pw_below_drewN ((Below.refl w.heap.size w).alloc (Nat.le_refl _) (.cells #[.int .u8 13, .int .u8 10] 5 (2, 3))) q
  revert HB
  generalize (w.alloc (.cells #[.int .u8 13, .int .u8 10] 5 (2, 3))).drewN q = W1
  intro HB
  replace k0 := pw_cell_below HB k0
  go_wp2
  all_goals go_quiet (fail)
  all_goals go_wp2
  all_goals go_ret3
  all_goals exact ⟨rfl, pw_below_drewN HB _⟩

set_option maxRecDepth 100000 in
set_option maxHeartbeats 400000 in
theorem line_ok {w : World} {S : Nat → Prop} {g : Nat} {r : Rd} {vw vh vb vt : Value} {T : Nat → Prop} {mx : Int} (hmx : w.cell? ⟨1, 0, none⟩ = some (.int .i64 mx)) (h : RdAt w S g r vw vh vb vt T) (most : Int) (hm1 : most ≤ 65536) (hw : r.wait.length < 4294967281)
    (hu0 : 0 ≤ r.used) (hu : r.used + r.wait.length ≤ 4611686018427387904) (i : Nat) (hi : crlf r.wait = i) (him : ¬ most < (i : Int) + 2) :
    Calls Tryz.prog 103 #[.pointer (some ⟨g, 0, none⟩), .int .i64 most] w fun e w' => ∃ l vw1, e = .returned (.tuple #[l, .bool false, .bool true]) ∧ Cut5 w' l (r.wait.take i) ∧ l.ownBlock = vw.ownBlock ∧
      RdAt w' S g { r with wait := r.wait.drop (i + 2), used := r.used + (i + 2) } vw1 vh vb vt T ∧ vw1.ownBlock = vw.ownBlock ∧ Frame (fun k => k = g) w w' := by
  obtain ⟨Aw, cw, rfl, hw0⟩ := h.wait.sl
  have hcl := crlf_range r.wait
  have k0 := cell_of_heap h.cells 0 (.slice Aw r.wait.length cw) rfl
  have H := Aside0.mk h
  have HM := Aside0.mk hmx
  rw [hi] at hcl
  have HI := Aside0.mk hi
  clear h hmx hw0 hi
  have cv := conv40
  go_enter Tryz.func103, Tryz.ntmps103
  go_wp2_with fail
  refine (index_crlf (mx := mx) ?_ ?_ hw w.heap.size ?_ ?_).mono ?_
  · exact pw_cell_below ((Below.refl _ _).alloc (Nat.le_refl _) _) HM.out
  · exact H.out.wait.move fun k c _ hk => Below.heap_alloc _ _ _ (Array.getElem?_eq_some_iff.1 hk).1
  · exact new_cell _ _ _ _ 0
  · exact new_cell _ _ _ _ 1
  rintro e w1 ⟨rfl, q, rfl⟩
  clear cv
  rw [HI.out]
  have HB := pw_below_drewN ((Below.refl w.heap.size w).alloc (Nat.le_refl _) (.cells #[.int .u8 13, .int .u8 10] 5 (2, 3))) q
  revert HB
  generalize (w.alloc (.cells #[.int .u8 13, .int .u8 10] 5 (2, 3))).drewN q = W1
  intro HB
  have H1 := Aside0.mk (H.out.move HB.size (fun k _ hk => HB.block k hk))
  have n0 : ¬ ((i : Int) < 0) := by omega
  go_wp2_with fail
  refine (take_calls H1.out ((i : Int) + 2) (by omega) (by omega) hu0 (by omega)).mono ?_
  rintro e w2 ⟨rfl, HF, H2⟩
  rw [show ((i : Int) + 2).toNat = i + 2 from by omega] at *
  have hwl : (cutV (.slice Aw r.wait.length cw) 0 (i + 2)).ownBlock = (Value.slice Aw r.wait.length cw).ownBlock := cutV_block _ _ _
  have hcut := (H1.out.wait.cut 0 (i + 2) (by omega) (by omega)).over HF H1.out.cells
  simp only [List.drop_zero] at hcut
  have hl2 : (r.wait.take (i + 2)).length = i + 2 := by simp; omega
  have hcut2 := hcut.cut 0 i (by omega) (by omega)
  rw [List.drop_zero, List.take_take, Nat.min_eq_left (by omega : i ≤ i + 2)] at hcut2
  have hs := hcut.sl
  rw [hl2] at hs
  have e2 := run_cut_h hs (i : Int) (by omega) (by omega)
  rw [show ((i : Int)).toNat = i from by omega] at e2
  obtain ⟨A3, c3, e3, -⟩ := hcut2.sl
  have hl3 : (r.wait.take i).length = i := by simp; omega
  rw [hl3] at e3
  rw [e3] at e2
  obtain ⟨A1, c1, e1, -⟩ := hs
  rw [e1] at e2 ⊢
  have hb3 : (cutV (cutV (.slice Aw r.wait.length cw) 0 (i + 2)) 0 i).ownBlock = (Value.slice Aw r.wait.length cw).ownBlock := (cutV_block _ _ _).trans hwl
  rw [e3] at hb3 hcut2
  have Z := Aside0.mk (And.intro hcut2 (And.intro hb3 (And.intro HF H2)))
  clear hcut hcut2 hb3 HF H2 hwl hl2 hl3 e3 e1 H1 H
  go_wp2
  go_ret3
  refine ⟨.slice A3 i c3, _, rfl, Z.out.1, Z.out.2.1, Z.out.2.2.2, cutV_block _ _ _, (Frame.of_below HB).trans Z.out.2.2.1⟩
end Go.Proofs.YtafhkpnmolfjeaaGreatDoor.Rq
