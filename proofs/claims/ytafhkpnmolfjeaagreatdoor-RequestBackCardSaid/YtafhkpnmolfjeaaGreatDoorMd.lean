/- Walks of slices.Clone, the reader's Over, Left. · Walk of the reader's Feed. · Walk of the reader's Feed. · Walks of the reader's Left, and of Feed where the reader is over. · The chapter's examples: what the reader does with them. · Walk of the law's lives. · Walk of RequestNobody. -/
import Derived.Test.YtafhkpnmolfjeaaGreatDoorMb
import Derived.Test.YtafhkpnmolfjeaaGreatDoorMc
/-! ## RqX: Walks of slices.Clone, the reader's Over, Left. -/
set_option linter.unusedVariables false
set_option linter.unusedSimpArgs false
namespace Go.Proofs.YtafhkpnmolfjeaaGreatDoor.Rq
open Go.RowKit Go.Proofs.YtafhkpnmolfjeaaGreatDoorW.PrintWords Go.Proofs.YtafhkpnmolfjeaaGreatDoor.PRequestBack

theorem equalIn_func_nil (w : World) (f : Fn) (a b : Array Value) (t : TypeId) {x y z} (h : Tryz.prog.underlying t = some (.func x y z)) (d : Nat) : (Op.equalIn (d + 1) t (.func f a b) .nilFunc).run Tryz.prog w = .ok false w := by
  simp [Op.equalIn, run_underlying h]
theorem equalIn_nil_nilFunc (w : World) (t : TypeId) {x y z} (h : Tryz.prog.underlying t = some (.func x y z)) (d : Nat) : (Op.equalIn (d + 1) t .nilFunc .nilFunc).run Tryz.prog w = .ok true w := by
  simp [Op.equalIn, run_underlying h]
theorem run_eql_func_nil (w : World) (f : Fn) (a b : Array Value) (t : TypeId) {x y z} (h : Tryz.prog.underlying t = some (.func x y z)) : (binOp .eql t (.func f a b) .nilFunc).run Tryz.prog w = .ok (.bool false) w := by
  simp only [binOp]
  simp [Op.equal, Op.maxDepth, equalIn_func_nil w f a b t h 9999]
theorem run_eql_nil_nilFunc (w : World) (t : TypeId) {x y z} (h : Tryz.prog.underlying t = some (.func x y z)) : (binOp .eql t .nilFunc .nilFunc).run Tryz.prog w = .ok (.bool true) w := by
  simp only [binOp]
  simp [Op.equal, Op.maxDepth, equalIn_nil_nilFunc w t h 9999]
theorem run_neq_func_nil (w : World) (f : Fn) (a b : Array Value) (t : TypeId) {x y z} (h : Tryz.prog.underlying t = some (.func x y z)) : (binOp .neq t (.func f a b) .nilFunc).run Tryz.prog w = .ok (.bool true) w := by
  simp only [binOp]
  simp [Op.equal, Op.maxDepth, equalIn_func_nil w f a b t h 9999]
theorem run_neq_nil_nilFunc (w : World) (t : TypeId) {x y z} (h : Tryz.prog.underlying t = some (.func x y z)) : (binOp .neq t .nilFunc .nilFunc).run Tryz.prog w = .ok (.bool false) w := by
  simp only [binOp]
  simp [Op.equal, Op.maxDepth, equalIn_nil_nilFunc w t h 9999]

def Nx.isOver : Nx → Bool
  | .over => true
  | _ => false
set_option maxRecDepth 100000 in
set_option maxHeartbeats 400000 in
theorem over_calls {w : World} {g : Nat} (n : Nx) (hc : w.cell? ⟨g, 2, none⟩ = some (n.val g)) :
    Calls Tryz.prog 26 #[.pointer (some ⟨g, 0, none⟩)] w fun e w' => e = .returned (.bool n.isOver) ∧ w' = w := by
  have e1 := fun w => run_eql_nil_nilFunc w 26 Tryz.underlying26
  have e2 := fun w f a b => run_eql_func_nil w f a b 26 Tryz.underlying26
  cases n <;> simp only [Nx.val] at hc
  all_goals
    go_enter Tryz.func26, Tryz.ntmps26
    go_wp2
    go_ret
    exact ⟨rfl, rfl⟩
set_option maxRecDepth 100000 in
set_option maxHeartbeats 400000 in
theorem over_nilptr (w : World) :
    Calls Tryz.prog 26 #[.pointer none] w fun e w' => e = .returned (.bool true) ∧ w' = w := by
  go_enter Tryz.func26, Tryz.ntmps26
  go_wp2
  go_ret
  exact ⟨rfl, rfl⟩

set_option maxRecDepth 100000 in
set_option maxHeartbeats 400000 in
theorem clone_calls {w : World} {v : Value} {xs : List UInt8} (h : Cut5 w v xs) (hl : xs.length ≤ 1000000000000) :
    Calls Tryz.prog 44 #[v] w fun e w' => ∃ v', e = .returned v' ∧ (Kd.int .u8).R 5 w' w.heap.size (fun _ => True) v' (ints xs) ∧ Below w.heap.size w w' := by
  obtain ⟨A, c, rfl, hle, hm, hn, hsp⟩ := h.sl
  have e1 := fun w => Lib.run_eql_slice_nil (P := Tryz.prog) w 40 5 A xs.length c 0 0 Tryz.underlying40
  cases A with
  | none =>
    obtain rfl := hn rfl
    obtain rfl : xs = [] := List.eq_nil_of_length_eq_zero (by omega)
    clear h
    have e2 : ∀ w : World, (binOp .eql 40 (.slice none 0 0) (.slice none 0 0)).run Tryz.prog w = .ok (.bool true) w := fun w => Lib.run_eql_slice_nil (P := Tryz.prog) w 40 5 none 0 0 0 0 Tryz.underlying40
    clear e1
    show Calls Tryz.prog 44 #[.slice none 0 0] w _
    go_enter Tryz.func44, Tryz.ntmps44
    go_wp2_with fail
    go_ret
    exact ⟨_, rfl, Kd.R_nil _ _ _ _ _, Below.refl _ _⟩
  | some a =>
    have H := Aside0.mk h
    clear h
    go_enter Tryz.func44, Tryz.ntmps44
    go_wp2_with (at_builtin; go_must (refine Kd.R_append_rows (Kd.int .u8) (Rr := (Kd.int .u8).K (w.alloc (.cells #[] 5))) (w0 := w) w.heap.size rfl (.tmp 5) (.tmp 6) 40 5 (.int .u8 0) 1 rfl Tryz.underlying40 info5 rfl (by decide) (by decide) (.slice (some ⟨w.heap.size, 0, none⟩) 0 0) [] (ints xs) (some a) xs.length c (fun _ => True) (fun _ => False) (by simp [Act.eval, Act.put]) (by simp [Act.eval, Act.put]) ?c1 ?c2 (fun _ _ h => h) (fun _ h => h.elim) (fun k hk => trivial) ?c3 ?c4 ?c5 ?_))
    case c1 => exact Kd.R_of_own (xs := []) (own_lit w w.heap.size 5 .u8 [] (Nat.le_refl _) (by simp)) (fun _ _ => trivial)
    case c2 => exact (H.out.move (w1 := w.alloc (.cells #[] 5)) (fun k c _ hk => ((Below.refl w.heap.size w).alloc (Nat.le_refl _) _).block k (Array.getElem?_eq_some_iff.1 hk).1)).C
    case c3 => exact (Below.refl w.heap.size w).alloc (Nat.le_refl _) _
    case c4 => simp
    case c5 => simp; omega
    intro v1 w3 hR hB _ _
    go_wp2_with fail
    go_ret
    exact ⟨_, rfl, hR, hB⟩
end Go.Proofs.YtafhkpnmolfjeaaGreatDoor.Rq

/-! ## RqY: Walk of the reader's Feed. -/
set_option linter.unusedVariables false
set_option linter.unusedSimpArgs false
namespace Go.Proofs.YtafhkpnmolfjeaaGreatDoor.Rq
open Go.RowKit Go.Proofs.YtafhkpnmolfjeaaGreatDoorW.PrintWords Go.Proofs.YtafhkpnmolfjeaaGreatDoor.PRequestBack

theorem Cut5.of_R {w : World} {base : Nat} {ok : Nat → Prop} {v : Value} {xs : List UInt8} (h : (Kd.int .u8).R 5 w base ok v (ints xs)) : Cut5 w v xs ∧ ∀ k, v.ownBlock = some k → base ≤ k ∧ k < w.heap.size := by
  have ho := Kd.own_of_R h
  rw [ints_length] at ho
  have hlt := own_lt ho
  obtain ⟨_, ⟨rfl, h0⟩ | ⟨g, cap, cur, rfl, hb, hh, hn, hc, hs, ht⟩⟩ := ho
  · obtain rfl := List.eq_nil_of_length_eq_zero h0
    exact ⟨Cut5.nil w, fun k hk => by simp [Value.ownBlock] at hk⟩
  · refine ⟨⟨⟨_, _, rfl, hn, ?_, (fun h => by cases h), (fun a ha => by cases ha; rfl)⟩, (fun k hk => by simp only [Value.ownBlock, Option.some.injEq] at hk; subst hk; exact ⟨_, hh⟩), fun _ => ⟨g, 0, cap, cur, rfl, hh, fun j x hx => ?_⟩⟩, fun k hk => ?_⟩
    · have : maxLen ≤ 9223372036854775807 := by decide
      omega
    · have hj := (List.getElem?_eq_some_iff.1 hx).1
      rw [Nat.mul_one] at ht
      have h1 : (cur.toList.take xs.length)[j]? = some (.int .u8 x.toNat) := by
        rw [ht]; simp [encs, ints, hx]
      rw [List.getElem?_take, if_pos hj, Array.getElem?_toList] at h1
      rw [Nat.zero_add]
      exact h1
    · simp only [Value.ownBlock, Option.some.injEq] at hk
      subst hk
      exact ⟨hb, hlt _ rfl⟩

/-- A reader between two calls. -/
def FedAt (w : World) (S : Nat → Prop) (g : Nat) (r : Rd) : Prop := r.told = [] ∧ ∃ vw vh vb, RdAt w S g r vw vh vb (.slice none 0 0) (fun _ => False)
/-- A reader that takes nothing more. -/
def OverAt (w : World) (S : Nat → Prop) (g : Nat) : Prop := S g ∧ ∃ cs, w.heap[g]? = some (.cells cs 56 (0, 0)) ∧ cs[2]? = some .nilFunc
def OutAt (w : World) (S : Nat → Prop) (g : Nat) (v : Value) (L : List S53) (O : Option Rd) : Prop :=
  ∃ T, k53.R 53 w 0 T v L ∧ (∀ k, T k → S k ∧ k < w.heap.size) ∧ match O with
    | none => OverAt w (fun k => S k ∧ ¬ T k) g
    | some r => FedAt w (fun k => S k ∧ ¬ T k) g r
/-- A step of the reader and what comes of it. -/
inductive Step : Rd → Res → Prop
  | head (r : Rd) : r.nx = .head → HInv r → Step r (headF (r.wait.length + 1) r)
  | body (r : Rd) : r.nx = .body → BInv r → Step r (bodyF r)
  | size (r : Rd) : r.nx = .size → BInv r → Step r (sizeF r)
  | chunk (r : Rd) : r.nx = .chunk → BInv r → Step r (chunkF r)
inductive Run : Nat → Rd → List S53 → Option Rd → Prop
  | wait (n : Nat) {r r' : Rd} : Step r (.wait r') → Run (n + 1) r r'.told (some { r' with told := [] })
  | over (n : Nat) {r : Rd} {l : List S53} : Step r (.over l) → Run (n + 1) r l none
  | more {n : Nat} {r r' : Rd} {l : List S53} {o : Option Rd} : Step r (.more r') → Run n r' l o → Run (n + 1) r l o
def Nx.fn : Nx → Nat
  | .over => 0
  | .head => 75
  | .body => 139
  | .size => 137
  | .chunk => 177
theorem Nx.val_fn {n : Nx} (h : n ≠ .over) (g : Nat) : n.val g = .func (.func n.fn) #[.pointer (some ⟨g, 0, none⟩)] #[] := by
  cases n <;> first | exact absurd rfl h | rfl
theorem Step.nx {r : Rd} {res : Res} (h : Step r res) : r.nx ≠ .over := by
  cases h with
  | head hn _ => rw [hn]; decide
  | body hn _ => rw [hn]; decide
  | size hn _ => rw [hn]; decide
  | chunk hn _ => rw [hn]; decide
theorem Run.step {n : Nat} {r : Rd} {l : List S53} {o : Option Rd} (h : Run n r l o) : ∃ m res, n = m + 1 ∧ Step r res ∧ match res with
    | .wait r' => l = r'.told ∧ o = some { r' with told := [] }
    | .over l' => l = l' ∧ o = none
    | .more r' => Run m r' l o := by
  cases h with
  | wait n h => exact ⟨_, _, rfl, h, rfl, rfl⟩
  | over n h => exact ⟨_, _, rfl, h, rfl, rfl⟩
  | more h k => exact ⟨_, _, rfl, h, k⟩
theorem step_calls {r : Rd} {res : Res} (hs : Step r res) {w : World} {S : Nat → Prop} {g : Nat} (h : IsRd w S g r) (hU : ∀ k, w.heap.size ≤ k → S k) (hS : ∀ k, S k → 9 ≤ k) (hG : Glob w) :
    Calls Tryz.prog r.nx.fn #[.pointer (some ⟨g, 0, none⟩)] w (ResAt w S g res) := by
  cases hs with
  | head hn hI => rw [hn]; exact readHead_res h hI hU hS hG
  | body hn hI => rw [hn]; exact readBody_res h hI hU
  | size hn hI => rw [hn]; exact readSize_res h hI hU hS hG
  | chunk hn hI => rw [hn]; exact readChunk_res h hI hU
theorem ResAt.wait' {w w' : World} {S : Nat → Prop} {g : Nat} {r : Rd} {e : Ending} (h : ResAt w S g (.wait r) e w') : Frame S w w' ∧ e = .returned (.bool false) ∧ IsRd w' S g r := h
theorem ResAt.over' {w w' : World} {S : Nat → Prop} {g : Nat} {l : List S53} {e : Ending} (h : ResAt w S g (.over l) e w') : Frame S w w' ∧ e = .returned (.bool false) ∧ ∃ vt T, OvAt w' S g vt T l := h
theorem ResAt.more' {w w' : World} {S : Nat → Prop} {g : Nat} {r : Rd} {e : Ending} (h : ResAt w S g (.more r) e w') : Frame S w w' ∧ e = .returned (.bool true) ∧ IsRd w' S g r := h
theorem told_typed {w : World} {T : Nat → Prop} {v : Value} {l : List S53} (h : k53.R 53 w 0 T v l) : k53.R 53 w 0 (fun k => T k ∧ k < w.heap.size ∧ ∃ c t, (t = 53 ∨ t = 38) ∧ w.heap[k]? = some (.cells c t (0, 0))) v l :=
  Kd.R_mono (Kd.R_bound h) fun k hk => by
    obtain ⟨h1, _, h2, q, hq, c, hc⟩ := hk
    have hE : k53.E = [38] := rfl
    rw [hE] at hq
    simp only [List.mem_cons, List.not_mem_nil, or_false] at hq
    exact ⟨h1, h2, c, q, hq, hc⟩
theorem R_put13 {w : World} {g : Nat} {T : Nat → Prop} {v vt : Value} {l : List S53} {cs : Array Value} (hg : w.heap[g]? = some (.cells cs 56 (0, 0))) (h : k53.R 53 w 0 T v l) : k53.R 53 (w.setCell ⟨g, 13, none⟩ vt) 0 T v l :=
  Kd.R_mono (Kd.R_move (Kd.R_bound h) fun k hk => Below.heap_setCell w ⟨g, 13, none⟩ _ k (fun e => by
      obtain ⟨_, _, _, q, hq, c, hh⟩ := hk
      rw [e, hg] at hh; injection hh with hh; injection hh with _ ht
      have hE : k53.E = [38] := rfl
      rw [hE, ← ht] at hq; exact absurd hq (by decide))) (fun _ hk => hk.1)
theorem told_take {w : World} {S : Nat → Prop} {g : Nat} {r : Rd} {vw vh vb vt : Value} {T : Nat → Prop} (h : RdAt w S g r vw vh vb vt T) : OutAt (w.setCell ⟨g, 13, none⟩ (.slice none 0 0)) S g vt r.told (some { r with told := [] }) := by
  have h5 : ∀ (k : Nat) (c c' : Array Value) (t : TypeId), w.heap[k]? = some (.cells c 5 (0, 0)) → (t = 53 ∨ t = 38) → w.heap[k]? = some (.cells c' t (0, 0)) → False := by
    intro k c c' t h1 ht h2
    rw [h1] at h2; injection h2 with h2; injection h2 with _ h2
    rcases ht with rfl | rfl <;> cases h2
  refine ⟨_, R_put13 h.cells (told_typed h.told), fun k hk => ⟨(h.st k hk.1).1, by simp; exact hk.2.1⟩, rfl, vw, vh, vb, ?_⟩
  have hm := RdAt.make (r := { r with told := [] }) (S := fun k => S k ∧ ¬ (T k ∧ k < w.heap.size ∧ ∃ c t, (t = 53 ∨ t = 38) ∧ w.heap[k]? = some (.cells c t (0, 0)))) (T := fun _ => False) (vt := .slice none 0 0) h.cells (same_put (same_refl g w) 13 (.slice none 0 0)) (by simp) (by rw [heap_set h.cells 13 _]; simp [cellsRd])
    ⟨h.own, fun hc => by
      obtain ⟨_, _, c, t, ht, hh⟩ := hc
      have := h.cells
      rw [this] at hh; injection hh with hh; injection hh with _ h2
      rcases ht with rfl | rfl <;> cases h2⟩ h.wait h.body h.heads (Kd.R_nil _ _ _ _ _)
    (fun k hk => ⟨⟨(h.sw k hk).1, fun hc => by
      obtain ⟨_, _, c, t, ht, hh⟩ := hc
      obtain ⟨c', hc'⟩ := h.wait.2.1 k hk
      exact h5 k _ _ _ hc' ht hh⟩, (h.sw k hk).2⟩)
    (fun k hk => ⟨h.sb k hk, fun hc => by
      obtain ⟨_, _, c, t, ht, hh⟩ := hc
      obtain ⟨c', hc'⟩ := own_typed h.body k hk
      exact h5 k _ _ _ hc' ht hh⟩)
    (fun k hk _ => ⟨⟨(h.sh k hk).1, fun hc => (h.sh k hk).2 hc.1⟩, fun hc => hc⟩) (fun k hk _ => hk.elim)
  have he : (fun k => False ∧ k < w.heap.size) = (fun _ : Nat => False) := by funext k; simp
  rw [he] at hm
  exact hm
theorem told_over {w : World} {S : Nat → Prop} {g : Nat} {vt : Value} {T : Nat → Prop} {l : List S53} (h : OvAt w S g vt T l) : OutAt (w.setCell ⟨g, 13, none⟩ (.slice none 0 0)) S g vt l none := by
  obtain ⟨cs, hc, h2, h13⟩ := h.cells
  refine ⟨_, R_put13 hc (told_typed h.told), fun k hk => ⟨(h.st k hk.1).1, by simp; exact hk.2.1⟩, ⟨h.own, fun hk => ?_⟩, _, heap_set hc 13 _, ?_⟩
  · obtain ⟨_, _, c, t, ht, hh⟩ := hk
    rw [hc] at hh; injection hh with hh; injection hh with _ h2
    rcases ht with rfl | rfl <;> cases h2
  · rw [Array.getElem?_setIfInBounds]
    simp [h2]
/-- A reader's own blocks, no more. -/
theorem RdAt.grow {w : World} {S S' : Nat → Prop} {g : Nat} {r : Rd} {vw vh vb vt : Value} {T : Nat → Prop} (h : RdAt w S g r vw vh vb vt T) (hs : ∀ k, S k → S' k) : RdAt w S' g r vw vh vb vt T where
  cells := h.cells
  own := hs _ h.own
  wait := h.wait
  body := h.body
  heads := h.heads
  told := h.told
  sw := fun k hk => ⟨hs _ (h.sw k hk).1, (h.sw k hk).2⟩
  sb := fun k hk => hs _ (h.sb k hk)
  sh := fun k hk => ⟨hs _ (h.sh k hk).1, (h.sh k hk).2⟩
  st := fun k hk => ⟨hs _ (h.st k hk).1, (h.st k hk).2⟩
theorem FedAt.grow {w : World} {S S' : Nat → Prop} {g : Nat} {r : Rd} (h : FedAt w S g r) (hs : ∀ k, S k → S' k) : FedAt w S' g r := by
  obtain ⟨ht, vw, vh, vb, h⟩ := h
  exact ⟨ht, vw, vh, vb, h.grow hs⟩
theorem OverAt.grow {w : World} {S S' : Nat → Prop} {g : Nat} (h : OverAt w S g) (hs : ∀ k, S k → S' k) : OverAt w S' g := ⟨hs _ h.1, h.2⟩
/-- Behind the bytes' coming. -/
theorem wait_put {w w3 : World} {S : Nat → Prop} {g : Nat} {r : Rd} {vw vh vb v1 : Value} {ok : Nat → Prop} {l : List UInt8} (h : RdAt w S g r vw vh vb (.slice none 0 0) (fun _ => False)) (hU : ∀ k, w.heap.size ≤ k → S k) (hB : Below w.heap.size w w3)
    (hR : (Kd.int .u8).R 5 w3 w.heap.size ok v1 (ints l)) : Frame S w (w3.setCell ⟨g, 0, none⟩ v1) ∧ RdAt (w3.setCell ⟨g, 0, none⟩ v1) S g { r with wait := l } v1 vh vb (.slice none 0 0) (fun _ => False) := by
  have h3 := h.move hB.size (fun k _ hk => hB.block k hk)
  obtain ⟨hc, hk⟩ := Cut5.of_R hR
  refine ⟨(Frame.of_below hB).putIn h.own 0 _, ?_⟩
  have hm := RdAt.make (r := { r with wait := l }) (S := S) (T := fun _ => False) (vt := .slice none 0 0) (vw := v1) h3.cells (same_put (same_refl g w3) 0 v1) (by simp) (by rw [heap_set h3.cells 0 _]; simp [cellsRd]) h.own hc h3.body h3.heads h3.told (fun k hk1 => ⟨hU k (hk k hk1).1, (hk k hk1).2, fun e => by have := own_lt h.body k e; have := (hk k hk1).1; omega⟩) h3.sb (fun k hk _ => ⟨(h3.sh k hk).1, fun hc => hc⟩) (fun k hk _ => hk.elim)
  have he : (fun k => False ∧ k < w3.heap.size) = (fun _ : Nat => False) := by funext k; simp
  rw [he] at hm
  exact hm
end Go.Proofs.YtafhkpnmolfjeaaGreatDoor.Rq

/-! ## RqZ: Walk of the reader's Feed. -/
set_option linter.unusedVariables false
set_option linter.unusedSimpArgs false
namespace Go.Proofs.YtafhkpnmolfjeaaGreatDoor.Rq
open Go.RowKit Go.Proofs.YtafhkpnmolfjeaaGreatDoorW.PrintWords Go.Proofs.YtafhkpnmolfjeaaGreatDoor.PRequestBack

theorem add_block (a : Addr) (j : Nat) : (a.add j).block = a.block := by unfold Addr.add; split <;> rfl
theorem C_frame {S : Nat → Prop} {w w1 : World} {A : Option Addr} {n : Nat} {xs : List Int} (hf : Frame S w w1) (h : (Kd.int .u8).C w A n xs) (hne : 0 < n → ∀ a, A = some a → ¬ S a.block) : (Kd.int .u8).C w1 A n xs := by
  obtain ⟨h1, h2, h3⟩ := h
  refine ⟨h1, h2, fun h0 => ?_⟩
  obtain ⟨ad, e, hr⟩ := h3 h0
  refine ⟨ad, e, fun j p hp => ?_⟩
  obtain ⟨c, hk, hcl, hcells⟩ := hr j p hp
  exact ⟨c, hk, hcl, fun i u hu => cell_frame hf (by rw [add_block]; exact hne h0 ad e) (hcells i u hu)⟩
set_option maxRecDepth 100000 in
set_option maxHeartbeats 1600000 in
theorem feed_calls {w : World} {S : Nat → Prop} {g : Nat} {r : Rd} (h : FedAt w S g r) {A : Option Addr} {c : Nat} {bs : List UInt8} (hv : (Kd.int .u8).C w A bs.length (ints bs)) (hne : 0 < bs.length → ∀ a, A = some a → a.block ≠ g) (hU : ∀ k, w.heap.size ≤ k → S k) (hS : ∀ k, S k → 9 ≤ k) (hG : Glob w)
    (hl : r.wait.length + bs.length ≤ 100000000000) {n : Nat} {L : List S53} {O : Option Rd} (hr : Run n { r with wait := r.wait ++ bs } L O) :
    Calls Tryz.prog 23 #[.pointer (some ⟨g, 0, none⟩), .slice A bs.length c] w fun e w' => Frame S w w' ∧ ∃ vo, e = .returned vo ∧ OutAt w' S g vo L O := by
  obtain ⟨ht, vw, vh, vb, h⟩ := h
  obtain ⟨Aw, cw, rfl, _⟩ := h.wait.sl
  have hx : r.nx ≠ .over := by obtain ⟨m, res, _, hs, _⟩ := hr.step; exact hs.nx
  have e1 := fun w f a b => run_neq_func_nil w f a b 26 Tryz.underlying26
  have e2 := fun w => run_neq_nil_nilFunc w 26 Tryz.underlying26
  have k2 := cell_of_heap h.cells 2 (r.nx.val g) rfl
  have k0 := cell_of_heap h.cells 0 (.slice Aw r.wait.length cw) rfl
  have k13 := cell_of_heap h.cells 13 (.slice none 0 0) rfl
  have f13 := frozen_of_heap h.cells 13
  have H := Aside0.mk h
  have HV := Aside0.mk hv
  have HU := Aside0.mk hU
  have HS := Aside0.mk hS
  have HG := Aside0.mk hG
  have HR := Aside0.mk hr
  clear h hv hU hS hG hr
  go_enter Tryz.func23, Tryz.ntmps23
  go_wp2_with fail
  refine (over_calls r.nx k2).mono ?_
  rintro e w1 ⟨rfl, rfl⟩
  have hov : r.nx.isOver = false := by cases hq : r.nx <;> first | exact absurd hq hx | rfl
  rw [hov]
  go_wp2_with fail
  have H1 := Aside0.mk (H.out.turn (w1 := w1.setCell ⟨g, 13, none⟩ (.slice none 0 0)) (r1 := r) (by rw [heap_set H.out.cells 13 _]; simp [cellsRd]) (by simp) (same_put (same_refl g w1) 13 _) H.out.wait (fun _ hk => hk) rfl rfl rfl)
  have HF1 := Aside0.mk ((Frame.refl S w1).putIn H.out.own 13 (.slice none 0 0))
  have HV1 := Aside0.mk (C_frame ((Frame.refl (fun k => k = g) w1).put 13 (.slice none 0 0)) HV.out hne)
  clear HV H k2 k13 f13 k0
  revert H1 HF1 HV1
  generalize w1.setCell ⟨g, 13, none⟩ (.slice none 0 0) = W1
  intro H1 HF1 HV1
  refine (clone_calls H1.out.wait (by omega)).mono ?_
  rintro e w2 ⟨v2, rfl, hR2, hB2⟩
  obtain ⟨A2, c2, hv2⟩ := R_slice' hR2
  rw [ints_length] at hv2
  subst hv2
  have HR2 := Aside0.mk hR2
  have HB2 := Aside0.mk hB2
  clear hR2 hB2
  go_wp2_with (at_builtin; go_must (refine Kd.R_append_rows (Kd.int .u8) (Rr := (Kd.int .u8).K w2) (w0 := W1) W1.heap.size rfl (.tmp 16) (.tmp 17) 40 5 (.int .u8 0) 1 rfl Tryz.underlying40 info5 rfl (by decide) (by decide) (.slice A2 r.wait.length c2) (ints r.wait) (ints bs) A bs.length c (fun _ => True) (fun _ => False) (by simp [Act.eval, Act.put]) (by simp [Act.eval, Act.put]) HR2.out ?c2 (fun _ _ h => h) (fun _ h => h.elim) (fun k hk => trivial) HB2.out HB2.out.size ?c5 ?_))
  case c2 => exact Kd.C_below HV1.out HB2.out
  case c5 => rw [ints_length]; omega
  intro v1 w3 hR hB _ _
  obtain ⟨Ab1, cb1, hv1⟩ := R_slice' hR
  rw [← ints_append, ints_length, List.length_append] at hv1
  subst hv1
  rw [← ints_append] at hR
  have HP := Aside0.mk (wait_put H1.out (fun k hk => HU.out k (Nat.le_trans HF1.out.size hk)) hB hR)
  have h3 := H1.out.move hB.size (fun k _ hk => hB.block k hk)
  have q0 := cell_of_heap h3.cells 0 (.slice Aw r.wait.length cw) rfl
  have p0 := frozen_of_heap h3.cells 0
  clear hR hB h3
  go_wp2_with fail
  clear q0 p0
  have HF3 := Aside0.mk (HF1.out.trans HP.out.1)
  have HI := Aside0.mk HP.out.2
  clear HP
  revert HF3 HI
  generalize w3.setCell ⟨g, 0, none⟩ (.slice Ab1 (r.wait.length + bs.length) cb1) = W4
  intro HF3 HI
  go_loopg [] n (fun kq w' => ∃ r1, Aside0 (IsRd w' S g r1) ∧ Aside0 (Frame S w1 w') ∧ Aside0 (Run kq r1 L O))
  case atStart => exact ⟨_, ⟨_, _, _, _, _, HI.out⟩, HF3, HR⟩
  case round =>
    obtain ⟨r1, hR, hF, hRn⟩ := hrel
    obtain ⟨m, res, hm, hs, hres⟩ := hRn.out.step
    subst hm
    obtain ⟨vw, vh, vb, vt, T, h1⟩ := hR.out
    have k2 := cell_of_heap h1.cells 2 (r1.nx.val g) rfl
    rw [Nx.val_fn hs.nx] at k2
    have HRES := Aside0.mk hres
    have HG1 := Aside0.mk (HG.out.frame hF.out HS.out)
    have HU1 := Aside0.mk (fun k (hk : wr.heap.size ≤ k) => HU.out k (Nat.le_trans hF.out.size hk))
    have hcall := step_calls hs hR.out HU1.out HS.out HG1.out
    have hno := hs.nx
    clear hres hs h1
    cases hnx : r1.nx
    case' over => exact absurd hnx hno
    all_goals
      rw [hnx] at k2 hcall
      simp only [Nx.fn] at k2 hcall
      have HC := Aside0.mk hcall
      clear hcall hno
      go_wp2_with fail
      refine HC.out.mono ?_
      intro e w6 hp
      cases res with
      | wait r' =>
        obtain ⟨hf6, rfl, vw6, vh6, vb6, vt6, T6, h6⟩ := hp.wait'
        have k13 := cell_of_heap h6.cells 13 vt6 rfl
        have f13 := frozen_of_heap h6.cells 13
        obtain ⟨At6, ct6, rfl⟩ := R_slice h6.told
        have H6 := Aside0.mk (And.intro (hF.out.trans hf6) (told_take h6))
        have H7 := Aside0.mk h6.own
        clear hf6 hp h6 k2
        go_wp2_with fail
        go_ret
        obtain ⟨rfl, rfl⟩ := HRES.out
        exact ⟨H6.out.1.putIn H7.out 13 _, _, rfl, H6.out.2⟩
      | over l' =>
        obtain ⟨hf6, rfl, vt6, T6, h6⟩ := hp.over'
        obtain ⟨cs, hc6, _, h13⟩ := h6.cells
        have k13 := cell_of_heap hc6 13 vt6 h13
        have f13 := frozen_of_heap hc6 13
        obtain ⟨At6, ct6, rfl⟩ := R_slice h6.told
        have H6 := Aside0.mk (And.intro (hF.out.trans hf6) (told_over h6))
        have H7 := Aside0.mk h6.own
        clear hf6 hp h6 k2 hc6 h13
        go_wp2_with fail
        go_ret
        obtain ⟨rfl, rfl⟩ := HRES.out
        exact ⟨H6.out.1.putIn H7.out 13 _, _, rfl, H6.out.2⟩
      | more r' =>
        obtain ⟨hf6, rfl, h6⟩ := hp.more'
        have H6 := Aside0.mk h6
        have HF6 := Aside0.mk (hF.out.trans hf6)
        clear hf6 hp h6 k2
        go_wp2_with fail
        go_roundg m
        case measure => omega
        case rel => exact ⟨r', H6, HF6, ⟨HRES.out⟩⟩
end Go.Proofs.YtafhkpnmolfjeaaGreatDoor.Rq

/-! ## RqL: Walks of the reader's Left, and of Feed where the reader is over. -/
set_option linter.unusedVariables false
set_option linter.unusedSimpArgs false
namespace Go.Proofs.YtafhkpnmolfjeaaGreatDoor.Rq
open Go.RowKit Go.Proofs.YtafhkpnmolfjeaaGreatDoorW.PrintWords Go.Proofs.YtafhkpnmolfjeaaGreatDoor.PRequestBack

set_option maxRecDepth 100000 in
set_option maxHeartbeats 400000 in
theorem left_over {w : World} {g : Nat} (hc : w.cell? ⟨g, 2, none⟩ = some .nilFunc) :
    Calls Tryz.prog 25 #[.pointer (some ⟨g, 0, none⟩)] w fun e w' => e = .returned (.int .i64 0) ∧ w' = w := by
  go_enter Tryz.func25, Tryz.ntmps25
  go_wp2_with fail
  refine (over_calls .over hc).mono ?_
  rintro e w1 ⟨rfl, rfl⟩
  have : Nx.over.isOver = true := rfl
  rw [this]
  go_wp2_with fail
  go_ret
  exact ⟨rfl, rfl⟩
set_option maxRecDepth 100000 in
set_option maxHeartbeats 400000 in
theorem left_nilptr (w : World) :
    Calls Tryz.prog 25 #[.pointer none] w fun e w' => e = .returned (.int .i64 0) ∧ w' = w := by
  go_enter Tryz.func25, Tryz.ntmps25
  go_wp2_with fail
  refine (over_nilptr _).mono ?_
  rintro e w1 ⟨rfl, rfl⟩
  go_wp2_with fail
  go_ret
  exact ⟨rfl, rfl⟩
set_option maxRecDepth 100000 in
set_option maxHeartbeats 400000 in
theorem feed_nilptr {w : World} {A : Option Addr} {n c : Nat} :
    Calls Tryz.prog 23 #[.pointer none, .slice A n c] w fun e w' => e = .returned (.slice none 0 0) ∧ w' = w := by
  go_enter Tryz.func23, Tryz.ntmps23
  go_wp2_with fail
  refine (over_nilptr _).mono ?_
  rintro e w1 ⟨rfl, rfl⟩
  go_wp2_with fail
  go_ret
  exact ⟨rfl, rfl⟩
set_option maxRecDepth 100000 in
set_option maxHeartbeats 400000 in
theorem feed_over {w : World} {g : Nat} {A : Option Addr} {n c : Nat} (hc : w.cell? ⟨g, 2, none⟩ = some .nilFunc) :
    Calls Tryz.prog 23 #[.pointer (some ⟨g, 0, none⟩), .slice A n c] w fun e w' => e = .returned (.slice none 0 0) ∧ w' = w := by
  go_enter Tryz.func23, Tryz.ntmps23
  go_wp2_with fail
  refine (over_calls .over hc).mono ?_
  rintro e w1 ⟨rfl, rfl⟩
  have : Nx.over.isOver = true := rfl
  rw [this]
  go_wp2_with fail
  go_ret
  exact ⟨rfl, rfl⟩
set_option maxRecDepth 100000 in
set_option maxHeartbeats 400000 in
theorem left_calls {w : World} {S : Nat → Prop} {g : Nat} {r : Rd} (h : FedAt w S g r) (hx : r.nx ≠ .over) (h0 : 0 ≤ r.used) (h1 : r.used + r.wait.length ≤ 1000000000000000) :
    Calls Tryz.prog 25 #[.pointer (some ⟨g, 0, none⟩)] w fun e w' => e = .returned (.int .i64 (r.used + r.wait.length)) ∧ Below w.heap.size w w' := by
  obtain ⟨ht, vw, vh, vb, h⟩ := h
  obtain ⟨Aw, cw, rfl, _⟩ := h.wait.sl
  have k0 := cell_of_heap h.cells 0 (.slice Aw r.wait.length cw) rfl
  have k1 := cell_of_heap h.cells 1 (.int .i64 r.used) rfl
  have k2 := cell_of_heap h.cells 2 (r.nx.val g) rfl
  clear h
  go_enter Tryz.func25, Tryz.ntmps25
  go_wp2_with fail
  refine (over_calls r.nx k2).mono ?_
  rintro e w1 ⟨rfl, rfl⟩
  have hov : r.nx.isOver = false := by cases hq : r.nx <;> first | exact absurd hq hx | rfl
  rw [hov]
  go_wp2_with fail
  go_quiet (fail)
  go_wp2_with fail
  go_ret
  refine ⟨rfl, pw_below_drewN (Below.refl _ _) _⟩
end Go.Proofs.YtafhkpnmolfjeaaGreatDoor.Rq

/-! ## RqI: The chapter's examples: what the reader does with them. -/
set_option linter.unusedVariables false
set_option linter.unusedSimpArgs false
namespace Go.Proofs.YtafhkpnmolfjeaaGreatDoor.Rq
open Go.RowKit Go.Proofs.YtafhkpnmolfjeaaGreatDoorW.PrintWords Go.Proofs.YtafhkpnmolfjeaaGreatDoor.PRequestBack

def tGet : ByteArray := ⟨#[71, 69, 84]⟩
def tSlash : ByteArray := ⟨#[47]⟩
def line1 : List UInt8 := [71, 69, 84, 32, 47, 32, 72, 84, 84, 80, 47, 49, 46, 49, 13, 10]
def line2 : List UInt8 := [13, 10]
def line3 : List UInt8 := [103, 101, 116, 32, 47, 32, 72, 84, 84, 80, 47, 49, 46, 49, 13, 10]
def rd1 : Rd := { wait := [], used := 16, nx := .head, q := { f0 := tGet, f1 := tSlash, f2 := [], f3 := ⟨#[]⟩, f4 := false }, head := 16, lines := 1, old := false, body := [], size := 0, told := [] }
def ev2 : S53 := ⟨{ f0 := tGet, f1 := tSlash, f2 := [], f3 := ⟨#[]⟩, f4 := true }, 0⟩
def rd2 : Rd := { Rd.new with told := [ev2] }
theorem head1 : headF 17 { Rd.new with wait := line1 } = .wait rd1 := by kernel_rfl
theorem head2 : headF 3 { rd1 with wait := line2 } = .more rd2 := by kernel_rfl
theorem head2' : headF 1 rd2 = .wait rd2 := by kernel_rfl
theorem head3 : headF 17 { Rd.new with wait := line3 } = .over [⟨z24, 400⟩] := by kernel_rfl
theorem inv1 : HInv { Rd.new with wait := line1 } := ⟨by decide, by decide, by decide, by decide, by decide, by decide, by decide, by decide, (fun p hp => by cases hp), by decide⟩
theorem inv2 : HInv { rd1 with wait := line2 } := ⟨by decide, by decide, by decide, by decide, by decide, by decide, by decide, by decide, (fun p hp => by cases hp), by decide⟩
theorem inv2' : HInv rd2 := ⟨by decide, by decide, by decide, by decide, by decide, by decide, by decide, by decide, (fun p hp => by cases hp), by decide⟩
theorem inv3 : HInv { Rd.new with wait := line3 } := ⟨by decide, by decide, by decide, by decide, by decide, by decide, by decide, by decide, (fun p hp => by cases hp), by decide⟩
theorem run1 : Run 1 { Rd.new with wait := Rd.new.wait ++ line1 } [] (some rd1) := by
  have h : Step { Rd.new with wait := line1 } (.wait rd1) := head1 ▸ Step.head { Rd.new with wait := line1 } rfl inv1
  exact Run.wait 0 h
theorem run2 : Run 2 { rd1 with wait := rd1.wait ++ line2 } [ev2] (some Rd.new) := by
  have h : Step { rd1 with wait := line2 } (.more rd2) := head2 ▸ Step.head { rd1 with wait := line2 } rfl inv2
  have h' : Step rd2 (.wait rd2) := head2' ▸ Step.head rd2 rfl inv2'
  exact Run.more h (Run.wait 0 h')
theorem run3 : Run 1 { Rd.new with wait := Rd.new.wait ++ line3 } [⟨z24, 400⟩] none := by
  have h : Step { Rd.new with wait := line3 } (.over [⟨z24, 400⟩]) := head3 ▸ Step.head { Rd.new with wait := line3 } rfl inv3
  exact Run.over 0 h
def lit (bs : List UInt8) : Array Value := (bs.map fun x => Value.int .u8 x.toNat).toArray
theorem C_lit (w : World) (bs : List UInt8) (fr : Nat × Nat) (hl : bs.length ≤ 1000000) : (Kd.int .u8).C (w.alloc (.cells (lit bs) 5 fr)) (some ⟨w.heap.size, 0, none⟩) bs.length (ints bs) := by
  refine ⟨ints_length bs, by omega, fun h0 => ⟨_, rfl, fun j p hp => ⟨[.int .u8 p], rfl, rfl, fun i u hu => ?_⟩⟩⟩
  cases i with
  | zero =>
    simp only [List.getElem?_cons_zero, Option.some.injEq] at hu
    subst hu
    have : (Kd.int .u8).sz = 1 := rfl
    rw [this, Nat.mul_one, Nat.add_zero, add_at, new_cell, Nat.zero_add]
    simp only [ints, List.getElem?_map, Option.map_eq_some_iff] at hp
    obtain ⟨a, ha, rfl⟩ := hp
    simp [lit, ha]
  | succ i => simp at hu
end Go.Proofs.YtafhkpnmolfjeaaGreatDoor.Rq

/-! ## RqJ: Walk of the law's lives. -/
set_option linter.unusedVariables false
set_option linter.unusedSimpArgs false
namespace Go.Proofs.YtafhkpnmolfjeaaGreatDoor.Rq
open Go.RowKit Go.Proofs.YtafhkpnmolfjeaaGreatDoorW.PrintWords Go.Proofs.YtafhkpnmolfjeaaGreatDoor.PRequestBack

theorem FedAt.cell2 {w : World} {S : Nat → Prop} {g : Nat} {r : Rd} (h : FedAt w S g r) : w.cell? ⟨g, 2, none⟩ = some (r.nx.val g) := by
  obtain ⟨_, vw, vh, vb, h⟩ := h
  exact cell_of_heap h.cells 2 (r.nx.val g) rfl
theorem OverAt.cell2 {w : World} {S : Nat → Prop} {g : Nat} (h : OverAt w S g) : w.cell? ⟨g, 2, none⟩ = some .nilFunc := by
  obtain ⟨_, cs, hc, h2⟩ := h
  exact cell_of_heap hc 2 _ h2
theorem FedAt.move {w w1 : World} {S : Nat → Prop} {g : Nat} {r : Rd} (h : FedAt w S g r) (hB : Below w.heap.size w w1) : FedAt w1 S g r := by
  obtain ⟨ht, vw, vh, vb, h⟩ := h
  exact ⟨ht, vw, vh, vb, h.move hB.size (fun k _ hk => hB.block k hk)⟩
theorem FedAt.lt {w : World} {S : Nat → Prop} {g : Nat} {r : Rd} (h : FedAt w S g r) : g < w.heap.size := by
  obtain ⟨_, vw, vh, vb, h⟩ := h
  exact h.lt
/-- The one event of a list, as it lies. -/
theorem one_event {w : World} {T : Nat → Prop} {v : Value} {x : S53} (h : k53.R 53 w 0 T v [x]) : ∃ ad c, v = .slice (some ad) 1 c ∧ w.cell? ad = some (.string x.f0.f0) ∧ w.cell? ⟨ad.block, ad.off + 4, none⟩ = some (.bool x.f0.f4) ∧ w.cell? ⟨ad.block, ad.off + 5, none⟩ = some (.int .i64 x.f1) := by
  obtain ⟨A, c, rfl, hle, hC⟩ := Kd.R_reads h
  obtain ⟨ad, A2, c2, rfl, h0, _, _, _, h4, h5, _⟩ := at_T53 hC 0 (by omega) (by simp)
  have hr : rd_T53 [x] 0 = x := rfl
  have ha : ad.add ((0 : Int).toNat * 6) = ad := by simp [Addr.add]
  rw [hr, ha] at h0 h4 h5
  exact ⟨ad, c, rfl, h0, h4, h5⟩
theorem feed_lit {w0 w1 : World} {g : Nat} {r : Rd} (hF : Frame (fun k => w0.heap.size ≤ k) w0 w1) (h : FedAt w1 (fun k => w0.heap.size ≤ k) g r) (hG : Glob w0) (h9 : 9 ≤ w0.heap.size) (bs : List UInt8) (hl : bs.length ≤ 1000000) (fr : Nat × Nat) (c : Nat)
    (hw : r.wait.length ≤ 1000000) {n : Nat} {L : List S53} {O : Option Rd} (hr : Run n { r with wait := r.wait ++ bs } L O) :
    Calls Tryz.prog 23 #[.pointer (some ⟨g, 0, none⟩), .slice (some ⟨w1.heap.size, 0, none⟩) bs.length c] (w1.alloc (.cells (lit bs) 5 fr)) fun e w' => Frame (fun k => w0.heap.size ≤ k) w0 w' ∧ ∃ vo, e = .returned vo ∧ OutAt w' (fun k => w0.heap.size ≤ k) g vo L O := by
  have hB : Below w1.heap.size w1 (w1.alloc (.cells (lit bs) 5 fr)) := (Below.refl _ _).alloc (Nat.le_refl _) _
  have hF1 := hF.trans (Frame.of_below (S := fun k => w0.heap.size ≤ k) hB)
  refine (feed_calls (h.move hB) (C_lit w1 bs fr hl) (fun _ a ha => by cases ha; exact Nat.ne_of_gt h.lt) (fun k hk => Nat.le_trans hF1.size hk) (fun k hk => Nat.le_trans h9 hk) (hG.frame hF1 (fun k hk => Nat.le_trans h9 hk)) (by omega) hr).mono ?_
  rintro e w' ⟨hf, vo, he, ho⟩
  exact ⟨hF1.trans hf, vo, he, ho⟩
set_option maxRecDepth 100000 in
set_option maxHeartbeats 1600000 in
theorem lives_calls {w : World} (hG : Glob w) (h9 : 9 ≤ w.heap.size) :
    Calls Tryz.prog 20 #[] w fun e w' => e = .returned (.bool true) ∧ Below w.heap.size w w' := by
  have hU : ∀ k, w.heap.size ≤ k → w.heap.size ≤ k := fun k hk => hk
  have hS : ∀ k, w.heap.size ≤ k → 9 ≤ k := fun k hk => by omega
  have HG := Aside0.mk hG
  have cv := conv40
  clear hG
  go_enter Tryz.func20, Tryz.ntmps20
  go_wp2_with fail
  refine (new_calls (S := fun k => w.heap.size ≤ k) hU).mono ?_
  rintro e w1 ⟨rfl, hB1, h1⟩
  have H1 := Aside0.mk (show FedAt w1 (fun k => w.heap.size ≤ k) w.heap.size Rd.new from ⟨rfl, _, _, _, h1⟩)
  have HB1 := Aside0.mk hB1
  clear h1 hB1
  go_wp2_with fail
  refine (feed_lit (Frame.of_below HB1.out) H1.out HG.out h9 line1 (by decide) (16, 17) 16 (by decide) run1).mono ?_
  rintro e w2 ⟨hF2, vo2, rfl, T2, hR2, _, h2⟩
  obtain ⟨A2, c2, rfl⟩ := R_slice hR2
  have H2 := Aside0.mk (show FedAt w2 (fun k => w.heap.size ≤ k) _ rd1 from FedAt.grow h2 (fun k hk => hk.1))
  have HF2 := Aside0.mk hF2
  clear hF2 hR2 h2 H1 HB1
  go_wp2_with fail
  refine (feed_lit HF2.out H2.out HG.out h9 line2 (by decide) (2, 3) 2 (by decide) run2).mono ?_
  rintro e w3 ⟨hF3, vo3, rfl, T3, hR3, _, h3⟩
  obtain ⟨ad3, c3, rfl, q0, q4, _⟩ := one_event hR3
  have H3 := Aside0.mk (show FedAt w3 (fun k => w.heap.size ≤ k) _ Rd.new from FedAt.grow h3 (fun k hk => hk.1))
  have HF3 := Aside0.mk hF3
  have hev : ev2.f0.f0 = ⟨#[71, 69, 84]⟩ := rfl
  have hev4 : ev2.f0.f4 = true := rfl
  rw [hev] at q0
  rw [hev4] at q4
  clear hF3 hR3 h3 H2 HF2
  go_wp2_with fail
  refine (over_calls .head H3.out.cell2).mono ?_
  rintro e w4 ⟨rfl, rfl⟩
  clear q0 q4
  go_wp2_with fail
  refine (feed_lit HF3.out H3.out HG.out h9 line3 (by decide) (16, 17) 16 (by decide) run3).mono ?_
  rintro e w5 ⟨hF5, vo5, rfl, T5, hR5, _, h5⟩
  obtain ⟨ad5, c5, rfl, _, _, q5⟩ := one_event hR5
  have H5 := Aside0.mk (show OverAt w5 (fun k => w.heap.size ≤ k) _ from OverAt.grow h5 (fun k hk => hk.1))
  have HF5 := Aside0.mk hF5
  replace q5 : w5.cell? ⟨ad5.block, ad5.off + 5, none⟩ = some (.int .i64 400) := q5
  clear hF5 hR5 h5 H3 HF3
  go_wp2_with fail
  refine (over_calls .over H5.out.cell2).mono ?_
  rintro e w6 ⟨rfl, rfl⟩
  go_wp2_with fail
  refine (left_over H5.out.cell2).mono ?_
  rintro e w7 ⟨rfl, rfl⟩
  go_wp2_with fail
  go_ret
  exact ⟨rfl, HF5.out.below (fun k hk => hk)⟩
end Go.Proofs.YtafhkpnmolfjeaaGreatDoor.Rq

/-! ## RqN: Walk of RequestNobody. -/
set_option linter.unusedVariables false
set_option linter.unusedSimpArgs false
namespace Go.Proofs.YtafhkpnmolfjeaaGreatDoor.Rq
open Go.RowKit Go.Proofs.YtafhkpnmolfjeaaGreatDoorW.PrintWords Go.Proofs.YtafhkpnmolfjeaaGreatDoor.PRequestBack

set_option maxRecDepth 100000 in
set_option maxHeartbeats 1600000 in
theorem nobody_calls {w : World} (hG : Glob w) (h9 : 9 ≤ w.heap.size) (A : Option Addr) (n c : Nat) :
    Calls Tryz.prog 8 #[.slice A n c] w fun e w' => e = .returned (.bool true) ∧ Below w.heap.size w w' := by
  have HG := Aside0.mk hG
  clear hG
  go_enter Tryz.func8, Tryz.ntmps8
  go_wp2_with fail
  have hW : ∀ (o1 o2 : Obj), Below w.heap.size w ((w.alloc o1).alloc o2) := fun o1 o2 => ((Below.refl w.heap.size w).alloc (Nat.le_refl _) o1).alloc (by simp) o2
  have hZ : ∀ (o1 : Obj) (C : Array Value) (t : TypeId) (i : Nat), ((w.alloc o1).alloc (.cells C t)).cell? ⟨w.heap.size + 1, i, none⟩ = C[i]? := fun o1 C t i => by
    have h := new_cell (w.alloc o1) C t (0, 0) i
    have hs : (w.alloc o1).heap.size = w.heap.size + 1 := by simp
    rw [hs] at h
    exact h
  have hY : ∀ (C : Array Value) (t : TypeId) (o : Obj) (i : Nat), ((w.alloc (.cells C t)).alloc o).cell? ⟨w.heap.size, i, none⟩ = C[i]? := fun C t o i => by
    rw [← new_cell w C t (0, 0) i]
    exact World.cell?_of_block (((Below.refl (w.alloc (.cells C t)).heap.size (w.alloc (.cells C t))).alloc (Nat.le_refl _) o).block w.heap.size (by simp))
  have m0 := fun o1 p => hZ o1 #[.pointer none, p] 41 0
  have m1 := fun o1 p => hZ o1 #[.pointer none, p] 41 1
  have m2 := fun o => hY #[.slice none 0 0, .int .i64 0, .nilFunc, .string ⟨#[]⟩, .string ⟨#[]⟩, .slice none 0 0, .string ⟨#[]⟩, .bool false, .int .i64 0, .int .i64 0, .bool false, .slice none 0 0, .int .i64 0, .slice none 0 0] 56 o 2
  simp only [List.getElem?_toArray, List.getElem?_cons_zero, List.getElem?_cons_succ] at m0 m1 m2
  have hB := hW (.cells #[.slice none 0 0, .int .i64 0, .nilFunc, .string ⟨#[]⟩, .string ⟨#[]⟩, .slice none 0 0, .string ⟨#[]⟩, .bool false, .int .i64 0, .int .i64 0, .bool false, .slice none 0 0, .int .i64 0, .slice none 0 0] 56) (.cells #[.pointer none, .pointer (some ⟨w.heap.size, 0, none⟩)] 41)
  have m0 := m0 (.cells #[.slice none 0 0, .int .i64 0, .nilFunc, .string ⟨#[]⟩, .string ⟨#[]⟩, .slice none 0 0, .string ⟨#[]⟩, .bool false, .int .i64 0, .int .i64 0, .bool false, .slice none 0 0, .int .i64 0, .slice none 0 0] 56) (.pointer (some ⟨w.heap.size, 0, none⟩))
  have m1 := m1 (.cells #[.slice none 0 0, .int .i64 0, .nilFunc, .string ⟨#[]⟩, .string ⟨#[]⟩, .slice none 0 0, .string ⟨#[]⟩, .bool false, .int .i64 0, .int .i64 0, .bool false, .slice none 0 0, .int .i64 0, .slice none 0 0] 56) (.pointer (some ⟨w.heap.size, 0, none⟩))
  have m2 := m2 (.cells #[.pointer none, .pointer (some ⟨w.heap.size, 0, none⟩)] 41)
  revert hB m0 m1 m2
  generalize (w.alloc (.cells #[.slice none 0 0, .int .i64 0, .nilFunc, .string ⟨#[]⟩, .string ⟨#[]⟩, .slice none 0 0, .string ⟨#[]⟩, .bool false, .int .i64 0, .int .i64 0, .bool false, .slice none 0 0, .int .i64 0, .slice none 0 0] 56)).alloc (.cells #[.pointer none, .pointer (some ⟨w.heap.size, 0, none⟩)] 41) = W1
  intro hB m0 m1 m2
  clear hW hZ hY
  have HB := Aside0.mk hB
  have m0 := m0
  have M0 := Aside0.mk (m0.trans rfl : W1.cell? ⟨w.heap.size + 1, 0, none⟩ = some (.pointer none))
  have M1 := Aside0.mk (m1.trans rfl : W1.cell? ⟨w.heap.size + 1, 1, none⟩ = some (.pointer (some ⟨w.heap.size, 0, none⟩)))
  have M2 := Aside0.mk (m2.trans rfl : W1.cell? ⟨w.heap.size, 2, none⟩ = some .nilFunc)
  clear m0 m1 m2 hB
  go_loopw [9] (fun i wr => wr = W1 ∧ ∃ k : Nat, k ≤ 2 ∧ i = .int .i64 k) (fun i _ => 2 - (intOf i).toNat)
  case atStart => exact ⟨rfl, 0, by omega, rfl⟩
  case round =>
    obtain ⟨rfl, k, hk, rfl⟩ := hrel
    by_cases h0 : k = 0
    · subst h0
      have m0 := M0.out
      go_wp2_with fail
      refine (feed_nilptr).mono ?_
      rintro e w2 ⟨rfl, rfl⟩
      go_wp2_with fail
      refine (left_nilptr _).mono ?_
      rintro e w2 ⟨rfl, rfl⟩
      go_wp2_with fail
      refine (over_nilptr _).mono ?_
      rintro e w2 ⟨rfl, rfl⟩
      go_wp2_with fail
      go_roundw
      case rel => exact ⟨trivial, 1, by omega, by go_num⟩
      case measure => simp [intOf]
    · by_cases h1 : k = 1
      · subst h1
        have m1 := M1.out
        go_wp2_with fail
        refine (feed_over M2.out).mono ?_
        rintro e w2 ⟨rfl, rfl⟩
        go_wp2_with fail
        refine (left_over M2.out).mono ?_
        rintro e w2 ⟨rfl, rfl⟩
        go_wp2_with fail
        refine (over_calls .over M2.out).mono ?_
        rintro e w2 ⟨rfl, rfl⟩
        go_wp2_with fail
        go_roundw
        case rel => exact ⟨trivial, 2, by omega, by go_num⟩
        case measure => simp [intOf]
      · obtain rfl : k = 2 := by omega
        go_wp2_with fail
        refine (lives_calls (HG.out.below HB.out) (Nat.le_trans h9 HB.out.size)).mono ?_
        rintro e w3 ⟨rfl, hB3⟩
        have HB3 := Aside0.mk (below_step HB.out hB3)
        clear hB3
        go_wp2_with fail
        go_ret
        exact ⟨rfl, HB3.out⟩
end Go.Proofs.YtafhkpnmolfjeaaGreatDoor.Rq
