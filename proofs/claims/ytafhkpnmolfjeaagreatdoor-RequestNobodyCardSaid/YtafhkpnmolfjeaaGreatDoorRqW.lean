/- What a step of the reader leaves; the library's variables; wrappers of contracts. -/
import Derived.Test.YtafhkpnmolfjeaaGreatDoorRq4
import Derived.Test.YtafhkpnmolfjeaaGreatDoorRqA
import Derived.Test.YtafhkpnmolfjeaaGreatDoorRqV
set_option linter.unusedVariables false
set_option linter.unusedSimpArgs false
namespace Go.Proofs.YtafhkpnmolfjeaaGreatDoor.Rq
open Go.RowKit Go.Proofs.YtafhkpnmolfjeaaGreatDoorW.PrintWords Go.Proofs.YtafhkpnmolfjeaaGreatDoor.PRequestBack

/-- What the library's variables hold. -/
structure Glob (w : World) : Prop where
  maxLen : ∃ m, w.cell? ⟨1, 0, none⟩ = some (.int .i64 m)
  syn : ∃ t p, w.cell? ⟨5, 0, none⟩ = some (.iface t p)
  rng : ∃ t p, w.cell? ⟨6, 0, none⟩ = some (.iface t p)
theorem Glob.below {w w1 : World} (h : Glob w) (hb : Below w.heap.size w w1) : Glob w1 := by
  obtain ⟨⟨m, h1⟩, ⟨t, p, h2⟩, ⟨t', p', h3⟩⟩ := h
  exact ⟨⟨m, pw_cell_below hb h1⟩, ⟨t, p, pw_cell_below hb h2⟩, ⟨t', p', pw_cell_below hb h3⟩⟩
theorem cell_frame {S : Nat → Prop} {w w1 : World} (hf : Frame S w w1) {a : Addr} {v : Value} (ha : ¬ S a.block) (h : w.cell? a = some v) : w1.cell? a = some v :=
  (World.cell?_of_block (hf.block _ (World.block_lt_of_cell? w _ h) ha)).trans h
theorem Glob.frame {S : Nat → Prop} {w w1 : World} (h : Glob w) (hf : Frame S w w1) (hs : ∀ k, S k → 9 ≤ k) : Glob w1 := by
  obtain ⟨⟨m, h1⟩, ⟨t, p, h2⟩, ⟨t', p', h3⟩⟩ := h
  have hn : ∀ k, k < 9 → ¬ S k := fun k hk hc => by have := hs k hc; omega
  exact ⟨⟨m, cell_frame hf (hn 1 (by omega)) h1⟩, ⟨t, p, cell_frame hf (hn 5 (by omega)) h2⟩, ⟨t', p', cell_frame hf (hn 6 (by omega)) h3⟩⟩

def IsRd (w : World) (S : Nat → Prop) (g : Nat) (r : Rd) : Prop := ∃ vw vh vb vt T, RdAt w S g r vw vh vb vt T
inductive Res where
  | more (r : Rd)
  | wait (r : Rd)
  | over (l : List S53)
def ResAt (w : World) (S : Nat → Prop) (g : Nat) (res : Res) (e : Ending) (w' : World) : Prop :=
  Frame S w w' ∧ match res with
    | .more r => e = .returned (.bool true) ∧ IsRd w' S g r
    | .wait r => e = .returned (.bool false) ∧ IsRd w' S g r
    | .over l => e = .returned (.bool false) ∧ ∃ vt T, OvAt w' S g vt T l
theorem ResAt.from {w w1 w2 : World} {S : Nat → Prop} {g : Nat} {res : Res} {e : Ending} (h : ResAt w1 S g res e w2) (hf : Frame S w w1) : ResAt w S g res e w2 := ⟨hf.trans h.1, h.2⟩
theorem ResAt.bool {w w2 : World} {S : Nat → Prop} {g : Nat} {res : Res} {e : Ending} (h : ResAt w S g res e w2) : ∃ b, e = .returned (.bool b) := by
  obtain ⟨_, h⟩ := h
  cases res with
  | more r => exact ⟨_, h.1⟩
  | wait r => exact ⟨_, h.1⟩
  | over l => exact ⟨_, h.1⟩
def stopF (st : Int) (r : Rd) : Res := .over (r.told ++ [⟨z24, st⟩])
def doneF (r : Rd) : Res := if r.q.f4 then .more { r.begun with told := r.told ++ [⟨r.whole, 0⟩] } else .over (r.told ++ [⟨r.whole, 0⟩])
theorem stop_res {w : World} {S : Nat → Prop} {g : Nat} {r : Rd} (h : IsRd w S g r) (hU : ∀ k, w.heap.size ≤ k → S k) (st : Int) (hst : (st != 0) = true) (hl : r.told.length < 1000000000000) :
    Calls Tryz.prog 104 #[.pointer (some ⟨g, 0, none⟩), .int .i64 st] w (ResAt w S g (stopF st r)) := by
  obtain ⟨vw, vh, vb, vt, T, h⟩ := h
  refine (stop_some h hU st hst hl).mono ?_
  rintro e w' ⟨rfl, hf, vt1, T1, hr⟩
  exact ⟨hf, rfl, vt1, T1, OvAt.of_rd hr rfl⟩
theorem done_res {w : World} {S : Nat → Prop} {g : Nat} {r : Rd} (h : IsRd w S g r) (hU : ∀ k, w.heap.size ≤ k → S k) (hl : r.told.length < 1000000000000) :
    Calls Tryz.prog 138 #[.pointer (some ⟨g, 0, none⟩)] w (ResAt w S g (doneF r)) := by
  obtain ⟨vw, vh, vb, vt, T, h⟩ := h
  cases hk : r.q.f4
  · refine (done_over h hU hl hk).mono ?_
    rintro e w' ⟨rfl, hf, vt1, T1, hr⟩
    unfold doneF
    rw [hk]
    exact ⟨hf, rfl, vt1, T1, hr⟩
  · refine (done_keep h hU hl hk).mono ?_
    rintro e w' ⟨rfl, hf, vt1, T1, hr⟩
    unfold doneF
    rw [hk]
    exact ⟨hf, rfl, _, _, _, _, _, hr⟩

theorem contains_calls {w : World} {base : Nat} {ok : Nat → Prop} {v : Value} {l : List ByteArray} (h : Kd.R Kd.string 9 w base ok v l) (x : ByteArray) :
    Calls Tryz.prog 135 #[v, .string x] w fun e w' => e = .returned (.bool (Lib.containsS l x)) ∧ w' = w := by
  have ho := Kd.own_of_R h
  rcases Nat.eq_zero_or_pos l.length with h0 | h0
  · obtain ⟨A, c, rfl⟩ := own_slice ho
    obtain rfl : l = [] := List.eq_nil_of_length_eq_zero h0
    refine (Tryz.slices_Contains_string_empty A c x w).mono ?_
    rintro e w' ⟨rfl, rfl⟩
    exact ⟨by rw [show Lib.containsS [] x = false from by rw [Bool.eq_false_iff, Ne, Lib.containsS_iff]; simp], rfl⟩
  · obtain ⟨g, cap, rfl, _, _⟩ := ho.form h0
    have hm : l.length ≤ 9223372036854775807 := by
      rcases ho.2 with ⟨h1, h2⟩ | ⟨g', cap', cur, he, _, _, h1, h2, _⟩
      · omega
      · simp only [maxLen] at h2; omega
    refine (Tryz.slices_Contains_string g 0 l.length cap l x w (Nat.le_refl _) hm (fun j hj => ?_)).mono ?_
    · have := ho.cells (g := g) rfl j (.string (l.getD j ByteArray.empty)) (by simp [encs, List.getD_eq_getElem?_getD, List.getElem?_eq_getElem hj])
      rwa [add_at] at this
    · rintro e w' ⟨rfl, rfl⟩
      exact ⟨by rw [List.take_length], rfl⟩
/-- What Atoi tells: the number, if it is one. -/
def atoiF (s : ByteArray) : Option Int := match Lib.atoiAll s.data.toList with | .ok v => some v | _ => none
theorem atoi_calls (s : ByteArray) (w : World) (hG : Glob w) (hs : s.size ≤ 281474976710656) :
    Calls Tryz.prog 128 #[.string s] w fun e w' => Below w.heap.size w w' ∧ ((∃ v, atoiF s = some v ∧ e = .returned (.tuple #[.int .i64 v, .nilIface])) ∨ (atoiF s = none ∧ ∃ n N, e = .returned (.tuple #[.int .i64 n, .iface 235 (.pointer (some ⟨N, 0, none⟩))]))) := by
  obtain ⟨_, ⟨t, p, h2⟩, ⟨t', p', h3⟩⟩ := hG
  rcases h : Lib.atoiAll s.data.toList with v | _ | _
  · skip
    refine (Tryz.strconv_Atoi_ok s (by omega) v h w).mono ?_
    rintro e w' ⟨rfl, hw⟩
    refine ⟨?_, .inl ⟨v, by simp [atoiF, h], rfl⟩⟩
    rcases hw with rfl | ⟨t, rfl⟩
    · exact Below.refl _ _
    · exact ⟨rfl, rfl, rfl, by rw [Lib.bytesWorld_size]; omega, fun k hk => Lib.bytesWorld_at_old w 5 t k hk⟩
  · skip
    refine (Tryz.strconv_Atoi_syntax s hs h _ w h2 (.inr ⟨t, p, rfl⟩)).mono ?_
    rintro e w' ⟨N, rfl, _, _, hb⟩
    exact ⟨hb, .inr ⟨by simp [atoiF, h], _, N, rfl⟩⟩
  · skip
    refine (Tryz.strconv_Atoi_range s hs h _ w h3 (.inr ⟨t', p', rfl⟩)).mono ?_
    rintro e w' ⟨N, rfl, _, _, hb⟩
    exact ⟨hb, .inr ⟨by simp [atoiF, h], _, N, rfl⟩⟩
end Go.Proofs.YtafhkpnmolfjeaaGreatDoor.Rq
