/- Walk of the reader's Feed. -/
import Derived.Test.YtafhkpnmolfjeaaGreatDoorRqX
set_option linter.unusedVariables false
set_option linter.unusedSimpArgs false
namespace Go.Proofs.YtafhkpnmolfjeaaGreatDoor.Rq
open Go.RowKit Go.Proofs.YtafhkpnmolfjeaaGreatDoorW.PrintWords Go.Proofs.YtafhkpnmolfjeaaGreatDoor.PRequestBack

theorem Cut5.of_R {w : World} {base : Nat} {ok : Nat → Prop} {v : Value} {xs : List UInt8} (h : (Kd.int .u8).R 5 w base ok v (ints xs)) : Cut5 w v xs ∧ ∀ k, v.ownBlock = some k → base ≤ k ∧ k < w.heap.size := by
  have ho := Kd.own_of_R h
  rw [ints_length] at ho
  have hlt := own_lt ho
  obtain ⟨_, ⟨rfl, h0⟩ | ⟨g, cap, cur, rfl, hb, hh, hn, hc, hs, ht⟩⟩ := ho
  · obtain rfl := List.eq_nil_of_length_eq_zero h0
    exact ⟨Cut5.nil w, fun k hk => by simp [Value.ownBlock] at hk⟩
  · refine ⟨⟨⟨_, _, rfl, hn, ?_, (fun h => by cases h), (fun a ha => by cases ha; rfl)⟩, fun _ => ⟨g, 0, cap, cur, rfl, hh, fun j x hx => ?_⟩⟩, fun k hk => ?_⟩
    · have : maxLen ≤ 9223372036854775807 := by decide
      omega
    · have hj := (List.getElem?_eq_some_iff.1 hx).1
      rw [Nat.mul_one] at ht
      have h1 : (cur.toList.take xs.length)[j]? = some (.int .u8 x.toNat) := by
        rw [ht]; simp [encs, ints, hx]
      rw [List.getElem?_take, if_pos hj, Array.getElem?_toList] at h1
      rw [Nat.zero_add]
      exact h1
    · simp only [Value.ownBlock, Option.some.injEq] at hk
      subst hk
      exact ⟨hb, hlt _ rfl⟩

/-- A reader between two calls. -/
def FedAt (w : World) (S : Nat → Prop) (g : Nat) (r : Rd) : Prop := r.told = [] ∧ ∃ vw vh vb, RdAt w S g r vw vh vb (.slice none 0 0) (fun _ => False)
/-- A reader that takes nothing more. -/
def OverAt (w : World) (S : Nat → Prop) (g : Nat) : Prop := S g ∧ ∃ cs, w.heap[g]? = some (.cells cs 56 (0, 0)) ∧ cs[2]? = some .nilFunc
def OutAt (w : World) (S : Nat → Prop) (g : Nat) (v : Value) (L : List S53) (O : Option Rd) : Prop :=
  ∃ T, k53.R 53 w 0 T v L ∧ (∀ k, T k → S k ∧ k < w.heap.size) ∧ match O with
    | none => OverAt w S g
    | some r => FedAt w S g r
/-- A step of the reader and what comes of it. -/
inductive Step : Rd → Res → Prop
  | head (r : Rd) : r.nx = .head → HInv r → Step r (headF (r.wait.length + 1) r)
  | body (r : Rd) : r.nx = .body → BInv r → Step r (bodyF r)
inductive Run : Nat → Rd → List S53 → Option Rd → Prop
  | wait (n : Nat) {r r' : Rd} : Step r (.wait r') → Run (n + 1) r r'.told (some { r' with told := [] })
  | over (n : Nat) {r : Rd} {l : List S53} : Step r (.over l) → Run (n + 1) r l none
  | more {n : Nat} {r r' : Rd} {l : List S53} {o : Option Rd} : Step r (.more r') → Run n r' l o → Run (n + 1) r l o
def Nx.fn : Nx → Nat
  | .over => 0
  | .head => 75
  | .body => 139
  | .size => 137
  | .chunk => 177
theorem Nx.val_fn {n : Nx} (h : n ≠ .over) (g : Nat) : n.val g = .func (.func n.fn) #[.pointer (some ⟨g, 0, none⟩)] #[] := by
  cases n <;> first | exact absurd rfl h | rfl
theorem Step.nx {r : Rd} {res : Res} (h : Step r res) : r.nx ≠ .over := by
  cases h with
  | head hn _ => rw [hn]; decide
  | body hn _ => rw [hn]; decide
theorem Run.step {n : Nat} {r : Rd} {l : List S53} {o : Option Rd} (h : Run n r l o) : ∃ m res, n = m + 1 ∧ Step r res ∧ match res with
    | .wait r' => l = r'.told ∧ o = some { r' with told := [] }
    | .over l' => l = l' ∧ o = none
    | .more r' => Run m r' l o := by
  cases h with
  | wait n h => exact ⟨_, _, rfl, h, rfl, rfl⟩
  | over n h => exact ⟨_, _, rfl, h, rfl, rfl⟩
  | more h k => exact ⟨_, _, rfl, h, k⟩
theorem step_calls {r : Rd} {res : Res} (hs : Step r res) {w : World} {S : Nat → Prop} {g : Nat} (h : IsRd w S g r) (hU : ∀ k, w.heap.size ≤ k → S k) (hS : ∀ k, S k → 9 ≤ k) (hG : Glob w) :
    Calls Tryz.prog r.nx.fn #[.pointer (some ⟨g, 0, none⟩)] w (ResAt w S g res) := by
  cases hs with
  | head hn hI => rw [hn]; exact readHead_res h hI hU hS hG
  | body hn hI => rw [hn]; exact readBody_res h hI hU
theorem ResAt.wait' {w w' : World} {S : Nat → Prop} {g : Nat} {r : Rd} {e : Ending} (h : ResAt w S g (.wait r) e w') : Frame S w w' ∧ e = .returned (.bool false) ∧ IsRd w' S g r := h
theorem ResAt.over' {w w' : World} {S : Nat → Prop} {g : Nat} {l : List S53} {e : Ending} (h : ResAt w S g (.over l) e w') : Frame S w w' ∧ e = .returned (.bool false) ∧ ∃ vt T, OvAt w' S g vt T l := h
theorem ResAt.more' {w w' : World} {S : Nat → Prop} {g : Nat} {r : Rd} {e : Ending} (h : ResAt w S g (.more r) e w') : Frame S w w' ∧ e = .returned (.bool true) ∧ IsRd w' S g r := h
theorem told_take {w : World} {S : Nat → Prop} {g : Nat} {r : Rd} {vw vh vb vt : Value} {T : Nat → Prop} (h : RdAt w S g r vw vh vb vt T) : OutAt (w.setCell ⟨g, 13, none⟩ (.slice none 0 0)) S g vt r.told (some { r with told := [] }) := by
  have hR : k53.R 53 (w.setCell ⟨g, 13, none⟩ (.slice none 0 0)) 0 (fun k => T k) vt r.told :=
    Kd.R_mono (Kd.R_move (Kd.R_bound h.told) fun k hk => Below.heap_setCell w ⟨g, 13, none⟩ _ k (fun e => by
      obtain ⟨_, _, _, q, hq, c, hh⟩ := hk
      rw [e, h.cells] at hh; injection hh with hh; injection hh with _ ht
      have hE : k53.E = [38] := rfl
      rw [hE, ← ht] at hq; exact absurd hq (by decide))) (fun _ hk => hk.1)
  refine ⟨T, hR, fun k hk => ⟨(h.st k hk).1, by simp; exact (h.st k hk).2⟩, rfl, vw, vh, vb, ?_⟩
  have hm := RdAt.make (r := { r with told := [] }) (S := S) (T := fun _ => False) (vt := .slice none 0 0) h.cells (same_put (same_refl g w) 13 (.slice none 0 0)) (by simp) (by rw [heap_set h.cells 13 _]; simp [cellsRd]) h.own h.wait h.body h.heads (Kd.R_nil _ _ _ _ _) h.sw h.sb (fun k hk _ => ⟨(h.sh k hk).1, fun hc => hc⟩) (fun k hk _ => hk.elim)
  have he : (fun k => False ∧ k < w.heap.size) = (fun _ : Nat => False) := by funext k; simp
  rw [he] at hm
  exact hm
theorem told_over {w : World} {S : Nat → Prop} {g : Nat} {vt : Value} {T : Nat → Prop} {l : List S53} (h : OvAt w S g vt T l) : OutAt (w.setCell ⟨g, 13, none⟩ (.slice none 0 0)) S g vt l none := by
  obtain ⟨cs, hc, h2, h13⟩ := h.cells
  have hR : k53.R 53 (w.setCell ⟨g, 13, none⟩ (.slice none 0 0)) 0 (fun k => T k) vt l :=
    Kd.R_mono (Kd.R_move (Kd.R_bound h.told) fun k hk => Below.heap_setCell w ⟨g, 13, none⟩ _ k (fun e => by
      obtain ⟨_, _, _, q, hq, c, hh⟩ := hk
      rw [e, hc] at hh; injection hh with hh; injection hh with _ ht
      have hE : k53.E = [38] := rfl
      rw [hE, ← ht] at hq; exact absurd hq (by decide))) (fun _ hk => hk.1)
  refine ⟨T, hR, fun k hk => ⟨(h.st k hk).1, by simp; exact (h.st k hk).2⟩, h.own, _, heap_set hc 13 _, ?_⟩
  rw [Array.getElem?_setIfInBounds]
  simp [h2]
/-- Behind the bytes' coming. -/
theorem wait_put {w w3 : World} {S : Nat → Prop} {g : Nat} {r : Rd} {vw vh vb v1 : Value} {ok : Nat → Prop} {l : List UInt8} (h : RdAt w S g r vw vh vb (.slice none 0 0) (fun _ => False)) (hU : ∀ k, w.heap.size ≤ k → S k) (hB : Below w.heap.size w w3)
    (hR : (Kd.int .u8).R 5 w3 w.heap.size ok v1 (ints l)) : Frame S w (w3.setCell ⟨g, 0, none⟩ v1) ∧ RdAt (w3.setCell ⟨g, 0, none⟩ v1) S g { r with wait := l } v1 vh vb (.slice none 0 0) (fun _ => False) := by
  have h3 := h.move hB.size (fun k _ hk => hB.block k hk)
  obtain ⟨hc, hk⟩ := Cut5.of_R hR
  refine ⟨(Frame.of_below hB).putIn h.own 0 _, ?_⟩
  have hm := RdAt.make (r := { r with wait := l }) (S := S) (T := fun _ => False) (vt := .slice none 0 0) (vw := v1) h3.cells (same_put (same_refl g w3) 0 v1) (by simp) (by rw [heap_set h3.cells 0 _]; simp [cellsRd]) h.own hc h3.body h3.heads h3.told (fun k hk1 => ⟨hU k (hk k hk1).1, (hk k hk1).2, fun e => by have := own_lt h.body k e; have := (hk k hk1).1; omega⟩) h3.sb (fun k hk _ => ⟨(h3.sh k hk).1, fun hc => hc⟩) (fun k hk _ => hk.elim)
  have he : (fun k => False ∧ k < w3.heap.size) = (fun _ : Nat => False) := by funext k; simp
  rw [he] at hm
  exact hm
end Go.Proofs.YtafhkpnmolfjeaaGreatDoor.Rq
