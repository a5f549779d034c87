/- Words for the walks of package request's Reader: frames, rows of bytes, the reader in memory. · visible: all bytes of a text stand between two. · Walks of the reader's small methods. · Walk of the reader's first. · Walks of the reader's methods that write the list of what was told. · Walks of the reader's begin, New, done; slices.Clone. · Walk of the reader's done. · Walk of the reader's all. · What a step of the reader leaves; the library's variables; wrappers of contracts. -/
import Derived.Test.YtafhkpnmolfjeaaGreatDoorPRequestBackx0
import Derived.Test.YtafhkpnmolfjeaaGreatDoorShelf
import Derived.Lib.SlBytesConst
import Derived.WalkSpells
import Derived.WalkLawsBesides
import Derived.Laws.EntriesVeiled
import Derived.Outline
import Derived.Deep.RegionLaw
/-! ## Rq0: Words for the walks of package request's Reader: frames, rows of bytes, the reader in memory. -/
set_option linter.unusedVariables false
set_option linter.unusedSimpArgs false
namespace Go.Proofs.YtafhkpnmolfjeaaGreatDoor.Rq
open Go.RowKit Go.Proofs.YtafhkpnmolfjeaaGreatDoorW.PrintWords Go.Proofs.YtafhkpnmolfjeaaGreatDoor.PRequestBack

/-! ### Frames: nothing that lay there has turned but blocks of S -/
structure Frame (S : Nat → Prop) (w w' : World) : Prop where
  os : w'.os = w.os
  tape : w'.tape = w.tape
  output : w'.output = w.output
  size : w.heap.size ≤ w'.heap.size
  block : ∀ k, k < w.heap.size → ¬ S k → w'.heap[k]? = w.heap[k]?
namespace Frame
variable {S S' : Nat → Prop} {w w1 w2 : World}
theorem refl (S : Nat → Prop) (w : World) : Frame S w w := ⟨rfl, rfl, rfl, Nat.le_refl _, fun _ _ _ => rfl⟩
theorem trans (h : Frame S w w1) (k : Frame S w1 w2) : Frame S w w2 :=
  ⟨k.os.trans h.os, k.tape.trans h.tape, k.output.trans h.output, Nat.le_trans h.size k.size, fun i hi hs => (k.block i (Nat.lt_of_lt_of_le hi h.size) hs).trans (h.block i hi hs)⟩
theorem mono (h : Frame S w w1) (hs : ∀ k, k < w.heap.size → S k → S' k) : Frame S' w w1 := ⟨h.os, h.tape, h.output, h.size, fun k hk hn => h.block k hk (fun hc => hn (hs k hk hc))⟩
theorem of_below (h : Below w.heap.size w w1) : Frame S w w1 := ⟨h.os, h.tape, h.output, h.size, fun k hk _ => h.block k hk⟩
theorem of_grown {row : Option Nat} (h : w.grownBy w1 row) (hr : ∀ k, row = some k → S k) : Frame S w w1 := ⟨h.os, h.tape, h.output, h.size, fun k hk hn => h.block k hk (fun e => hn (hr k e.symm))⟩
theorem drewN (h : Frame S w w1) (n : Nat) : Frame S w (w1.drewN n) := ⟨h.os, h.tape, h.output, h.size, h.block⟩
theorem drew (h : Frame S w w1) : Frame S w w1.drew := ⟨h.os, h.tape, h.output, h.size, h.block⟩
theorem alloc (h : Frame S w w1) (o : Obj) : Frame S w (w1.alloc o) := h.trans (of_below ((Below.refl _ _).alloc (Nat.le_refl _) o))
theorem setCell (h : Frame S w w1) {a : Addr} (ha : S a.block) (v : Value) : Frame S w (w1.setCell a v) :=
  h.trans ⟨rfl, rfl, rfl, by simp [World.setCell], fun k _ hn => Below.heap_setCell _ _ _ k (fun e => hn (e ▸ ha))⟩
theorem putIn {g : Nat} (h : Frame S w w1) (hg : S g) (i : Nat) (v : Value) : Frame S w (w1.setCell ⟨g, i, none⟩ v) := h.setCell (a := ⟨g, i, none⟩) hg v
theorem put {g : Nat} (h : Frame (fun k => k = g) w w1) (i : Nat) (v : Value) : Frame (fun k => k = g) w (w1.setCell ⟨g, i, none⟩ v) := h.setCell (a := ⟨g, i, none⟩) rfl v
theorem below (h : Frame S w w1) (hs : ∀ k, S k → w.heap.size ≤ k) : Below w.heap.size w w1 := ⟨h.os, h.tape, h.output, h.size, fun k hk => h.block k hk (fun hc => by have := hs k hc; omega)⟩
end Frame
theorem same_refl (g : Nat) (w : World) : ∀ k, k ≠ g → k < w.heap.size → w.heap[k]? = w.heap[k]? := fun _ _ _ => rfl
theorem same_put {g : Nat} {w w1 : World} (h : ∀ k, k ≠ g → k < w.heap.size → w1.heap[k]? = w.heap[k]?) (i : Nat) (v : Value) : ∀ k, k ≠ g → k < w.heap.size → (w1.setCell ⟨g, i, none⟩ v).heap[k]? = w.heap[k]? :=
  fun k hk hl => (Below.heap_setCell w1 ⟨g, i, none⟩ v k hk).trans (h k hk hl)
theorem drewN_heap (w : World) (n : Nat) : (w.drewN n).heap = w.heap := rfl

theorem add_at (b off j : Nat) : (⟨b, off, none⟩ : Addr).add j = ⟨b, off + j, none⟩ := by unfold Addr.add; split <;> simp_all

theorem new_cell (w : World) (C : Array Value) (t : TypeId) (fr : Nat × Nat) (i : Nat) : (w.alloc (.cells C t fr)).cell? ⟨w.heap.size, i, none⟩ = C[i]? := by
  have h := heap_alloc_new w (.cells C t fr)
  simp only [World.cell?, h]
  rfl
/-! ### Slices as values whose make is not looked into -/
def isSl (v : Value) (n : Nat) : Prop := ∃ A c, v = .slice A n c ∧ n ≤ c ∧ n ≤ 9223372036854775807 ∧ (A = none → c = 0) ∧ ∀ a, A = some a → a.spot = none
theorem isSl.nil : isSl (.slice none 0 0) 0 := ⟨none, 0, rfl, Nat.le_refl _, by omega, fun _ => rfl, fun _ h => by cases h⟩
theorem isSl.len {v : Value} {n : Nat} (h : isSl v n) {t e : TypeId} (ht : Tryz.prog.underlying t = some (.slice e)) (ty : TypeId) (w : World) : (Builtin.len_ #[t] ty #[v]).run Tryz.prog w = .ok (.int .i64 n) w := by
  obtain ⟨A, c, rfl, _⟩ := h
  simp [Builtin.len_, goInt, run_underlying ht]
theorem isSl.store {v : Value} {n : Nat} (h : isSl v n) : ∀ (a : Addr) (m : Mode) (w : World), (store a v m).run Tryz.prog w = stored Tryz.prog w a v m := by
  obtain ⟨A, c, rfl, _⟩ := h
  intro a m w
  exact run_store Tryz.prog w a _ m rfl
theorem isSl.storeCells {v : Value} {n : Nat} (h : isSl v n) : ∀ (a : Addr) (w : World), (storeCells a [v]).run Tryz.prog w = stored Tryz.prog w a v .plain := by
  intro a w
  have hs := h.store a .plain w
  have ha : a.add 0 = a := by simp [Addr.add]
  simp only [Go.storeCells, Nat.zero_add, ha, Sem.run_bind, hs]
  cases stored Tryz.prog w a v .plain <;> rfl
theorem isSl.cells {v : Value} {n : Nat} (h : isSl v n) : v.cells = #[v] := by
  obtain ⟨A, c, rfl, _⟩ := h
  rfl

def ints (xs : List UInt8) : List Int := xs.map fun x => (x.toNat : Int)
def str (xs : List UInt8) : ByteArray := ⟨xs.toArray⟩
theorem ints_length (xs : List UInt8) : (ints xs).length = xs.length := by simp [ints]
theorem ints_append (xs ys : List UInt8) : ints (xs ++ ys) = ints xs ++ ints ys := by simp [ints]
theorem str_toList (xs : List UInt8) : (str xs).data.toList = xs := rfl
theorem str_size (xs : List UInt8) : (str xs).size = xs.length := rfl
theorem bytesOf_ints (xs : List UInt8) : Lib.bytesOf (ints xs) = xs := by
  simp only [Lib.bytesOf, ints, List.map_map]
  conv => rhs; rw [← List.map_id xs]
  exact List.map_congr_left (fun x _ => by simp)
theorem strOfNums_ints (xs : List UInt8) : strOfNums (ints xs) = str xs := by
  have h := bytesOf_ints xs
  simp only [Lib.bytesOf] at h
  unfold strOfNums str
  rw [← h]
  simp [ints]
theorem getD_ints (xs : List UInt8) (j : Nat) : (ints xs).getD j 0 = ((xs.getD j 0).toNat : Int) := by
  simp only [ints, List.getD_eq_getElem?_getD, List.getElem?_map]
  cases xs[j]? <;> rfl
/-- Bytes that lie in a block of type 5, not frozen; they are only read. -/
def Cut5 (w : World) (v : Value) (xs : List UInt8) : Prop :=
  isSl v xs.length ∧ (∀ k, v.ownBlock = some k → ∃ cells, w.heap[k]? = some (.cells cells 5 (0, 0))) ∧
  (0 < xs.length → ∃ b off c cells, v = .slice (some ⟨b, off, none⟩) xs.length c ∧ w.heap[b]? = some (.cells cells 5 (0, 0)) ∧ ∀ (j : Nat) (x : UInt8), xs[j]? = some x → cells[off + j]? = some (.int .u8 x.toNat))
theorem Cut5.sl {w : World} {v : Value} {xs : List UInt8} (h : Cut5 w v xs) : isSl v xs.length := h.1
theorem Cut5.nil (w : World) : Cut5 w (.slice none 0 0) [] := ⟨isSl.nil, fun k hk => by simp [Value.ownBlock] at hk, fun h => absurd h (by simp)⟩
theorem Cut5.move {w w1 : World} {v : Value} {xs : List UInt8} (h : Cut5 w v xs) (hm : ∀ k cells, v.ownBlock = some k → w.heap[k]? = some (.cells cells 5 (0, 0)) → w1.heap[k]? = w.heap[k]?) : Cut5 w1 v xs := by
  obtain ⟨h1, h2, h3⟩ := h
  refine ⟨h1, fun k hk => ?_, fun h0 => ?_⟩
  · obtain ⟨c, hc⟩ := h2 k hk
    exact ⟨c, (hm k c hk hc).trans hc⟩
  obtain ⟨b, off, c, cells, hv, hh, hc⟩ := h3 h0
  exact ⟨b, off, c, cells, hv, (hm b _ (by rw [hv]; rfl) hh).trans hh, hc⟩
theorem Cut5.cell {w : World} {v : Value} {xs : List UInt8} (h : Cut5 w v xs) (h0 : 0 < xs.length) : ∃ ad c, v = .slice (some ad) xs.length c ∧ xs.length ≤ c ∧ ∀ j, j < xs.length → w.cell? (ad.add j) = some (.int .u8 ((ints xs).getD j 0)) := by
  obtain ⟨⟨A, c', hv', hle, _⟩, _, h3⟩ := h
  obtain ⟨b, off, c, cells, hv, hh, hc⟩ := h3 h0
  refine ⟨⟨b, off, none⟩, c, hv, ?_, fun j hj => ?_⟩
  · rw [hv] at hv'; injection hv' with _ _ hcc; omega
  · have := hc j _ (List.getElem?_eq_getElem hj)
    simp [add_at, World.cell?, hh, this, ints, List.getD_eq_getElem?_getD, List.getElem?_eq_getElem hj]

theorem conv40 (w : World) (C : Array Value) (n c : Nat) : (convert 40 40 (.slice (some ⟨w.heap.size, 0, none⟩) n c)).run Tryz.prog (w.alloc (.cells C 5)) = .ok (.slice (some ⟨w.heap.size, 0, none⟩) n c) (w.alloc (.cells C 5 (C.size, C.size + 1))) := Lib.run_convert_bytes_const (P := Tryz.prog) w 40 5 C n c Tryz.underlying40 Tryz.underlying5
set_option maxRecDepth 100000 in
theorem Cut5.text {w : World} {v : Value} {xs : List UInt8} (h : Cut5 w v xs) : (convert 40 9 v).run Tryz.prog w = .ok (.string (str xs)) w := by
  rw [← strOfNums_ints]
  obtain ⟨A, c, rfl, hle, _, hn, hsp⟩ := h.sl
  rcases Nat.eq_zero_or_pos xs.length with h0 | h0
  · obtain rfl : xs = [] := List.eq_nil_of_length_eq_zero h0
    cases A with
    | none =>
      obtain rfl := hn rfl
      exact run_convert_bytes_nil w 40 5 Tryz.underlying40 Tryz.underlying5 0 0 9 Tryz.underlying9
    | some a =>
      obtain ⟨b, off, sp⟩ := a
      obtain rfl : sp = none := hsp _ rfl
      exact run_convert_bytes_arg w 40 5 Tryz.underlying40 Tryz.underlying5 b off 0 c ([] : List Int) (by rfl) (fun i hi => absurd hi (Nat.not_lt_zero i)) 9 Tryz.underlying9
  · obtain ⟨b, off, c', cells, hv, hh, hc⟩ := h.2.2 h0
    injection hv with e1 _ e3
    subst e1 e3
    refine run_convert_bytes_arg w 40 5 Tryz.underlying40 Tryz.underlying5 b off xs.length c (ints xs) (ints_length xs) (fun i hi => ?_) 9 Tryz.underlying9
    have h1 := hc i _ (List.getElem?_eq_getElem hi)
    rw [getD_ints]
    simp [World.cell?, hh, h1, List.getD_eq_getElem?_getD, List.getElem?_eq_getElem hi]
theorem info5 : (Tryz.prog.info? 5).map (fun i => (i.zero, i.size, i.bytes)) = some (some (.int .u8 0), 1, 1) := by kernel_rfl
theorem sizeOf5 : ∀ w, (sizeOf 5).run Tryz.prog w = .ok 1 w := by
  intro w
  have h := info5
  obtain ⟨i, hi, hz⟩ := Option.map_eq_some_iff.1 h
  simp only [Prod.mk.injEq] at hz
  simp [sizeOf, typeInfo, hi, hz.2.1]
/-- v[lo:hi], whatever lies there. -/
def cutV (v : Value) (lo hi : Nat) : Value := match v with
  | .slice A _ c => .slice (if c = lo then A else A.map (·.add lo)) (hi - lo) (c - lo)
  | v => v
theorem cutV_sl {v : Value} {n : Nat} (h : isSl v n) (lo hi : Nat) (h1 : lo ≤ hi) (h2 : hi ≤ n) : isSl (cutV v lo hi) (hi - lo) := by
  obtain ⟨A, c, rfl, hle, hm, hn, hsp⟩ := h
  refine ⟨_, _, rfl, by omega, by omega, fun he => ?_, fun a ha => ?_⟩
  · split at he
    · have := hn he; omega
    · simp at he; have := hn he; omega
  · split at ha
    · exact hsp a ha
    · cases A with
      | none => cases ha
      | some b =>
        simp only [Option.map_some, Option.some.injEq] at ha
        subst ha
        have := hsp b rfl
        unfold Addr.add
        split
        · exact this
        · rfl
theorem run_cut {v : Value} {n : Nat} (h : isSl v n) (lo hi : Int) (h0 : 0 ≤ lo) (h1 : lo ≤ hi) (h2 : hi ≤ n) (w : World) :
    (Instr.slice 40 v (some (.int .i64 lo)) (some (.int .i64 hi)) none).run Tryz.prog w = .ok (cutV v lo.toNat hi.toNat) w := by
  obtain ⟨A, c, rfl, hle, hm, hn⟩ := h
  have he : Tryz.prog.elem 40 = 5 := by kernel_rfl
  rw [run_slice_lh w 40 A n c (by rw [he]; exact Tryz.underlying40) .i64 .i64 lo hi h0 h1 (by omega), he, sizeOf5]
  simp [sliced, cutV, Result.andThen]
theorem run_cut_h {v : Value} {n : Nat} (h : isSl v n) (hi : Int) (h0 : 0 ≤ hi) (h2 : hi ≤ n) (w : World) :
    (Instr.slice 40 v none (some (.int .i64 hi)) none).run Tryz.prog w = .ok (cutV v 0 hi.toNat) w := by
  obtain ⟨A, c, rfl, hle, hm, hn⟩ := h
  have he : Tryz.prog.elem 40 = 5 := by kernel_rfl
  rw [run_slice_h w 40 A n c (by rw [he]; exact Tryz.underlying40) .i64 hi h0 (by omega), he, sizeOf5]
  simp [sliced, cutV, Result.andThen]
theorem run_cut_l {v : Value} {n : Nat} (h : isSl v n) (lo : Int) (h0 : 0 ≤ lo) (h2 : lo ≤ n) (w : World) :
    (Instr.slice 40 v (some (.int .i64 lo)) none none).run Tryz.prog w = .ok (cutV v lo.toNat n) w := by
  obtain ⟨A, c, rfl, hle, hm, hn⟩ := h
  have he : Tryz.prog.elem 40 = 5 := by kernel_rfl
  rw [run_slice_l w 40 A n c (by rw [he]; exact Tryz.underlying40) .i64 lo h0 (by omega), he, sizeOf5]
  simp [sliced, cutV, Result.andThen]
theorem cutV_block (v : Value) (lo hi : Nat) : (cutV v lo hi).ownBlock = v.ownBlock := by
  cases v <;> try rfl
  rename_i A n c
  simp only [cutV]
  by_cases h : c = lo
  · rw [if_pos h]; cases A <;> rfl
  · rw [if_neg h]
    cases A with
    | none => rfl
    | some a => simp only [Option.map_some, Value.ownBlock, Addr.add]; split <;> rfl
theorem Cut5.cut {w : World} {v : Value} {xs : List UInt8} (h : Cut5 w v xs) (lo hi : Nat) (h1 : lo ≤ hi) (h2 : hi ≤ xs.length) : Cut5 w (cutV v lo hi) ((xs.take hi).drop lo) := by
  have hl : ((xs.take hi).drop lo).length = hi - lo := by simp; omega
  refine ⟨by rw [hl]; exact cutV_sl h.1 lo hi h1 h2, fun k hk => h.2.1 k (by rwa [cutV_block] at hk), fun h0 => ?_⟩
  rw [hl] at h0 ⊢
  obtain ⟨b, off, c, cells, rfl, hh, hc⟩ := h.2.2 (by omega)
  have hle : xs.length ≤ c := by obtain ⟨A, c', hv, hle, _⟩ := h.1; injection hv with _ _ e; omega
  refine ⟨b, off + lo, c - lo, cells, ?_, hh, fun j x hx => ?_⟩
  · simp only [cutV]
    rw [if_neg (by omega)]
    simp [add_at]
  · rw [List.getElem?_drop, List.getElem?_take] at hx
    split at hx
    · rw [Nat.add_assoc]; exact hc _ _ hx
    · cases hx

/-! ### The reader -/
inductive Nx where
  | over | head | body | size | chunk
  deriving DecidableEq
def Nx.val (g : Nat) : Nx → Value
  | .over => .nilFunc
  | .head => .func (.func 75) #[.pointer (some ⟨g, 0, none⟩)] #[]
  | .body => .func (.func 139) #[.pointer (some ⟨g, 0, none⟩)] #[]
  | .size => .func (.func 137) #[.pointer (some ⟨g, 0, none⟩)] #[]
  | .chunk => .func (.func 177) #[.pointer (some ⟨g, 0, none⟩)] #[]
structure Rd where
  wait : List UInt8
  used : Int
  nx : Nx
  q : S24
  head : Int
  lines : Int
  old : Bool
  body : List UInt8
  size : Int
  told : List S53
def cellsRd (g : Nat) (r : Rd) (vw vh vb vt : Value) : Array Value :=
  #[vw, .int .i64 r.used, r.nx.val g, .string r.q.f0, .string r.q.f1, vh, .string r.q.f3, .bool r.q.f4, .int .i64 r.head, .int .i64 r.lines, .bool r.old, vb, .int .i64 r.size, vt]
/-- The reader r lies in block g; its rows lie in blocks of S. -/
structure RdAt (w : World) (S : Nat → Prop) (g : Nat) (r : Rd) (vw vh vb vt : Value) (T : Nat → Prop) : Prop where
  cells : w.heap[g]? = some (.cells (cellsRd g r vw vh vb vt) 56 (0, 0))
  own : S g
  wait : Cut5 w vw r.wait
  body : w.ownsRow 0 5 1 vb r.body.length (nums .u8 (ints r.body))
  heads : k38.R 38 w 0 (fun k => vh.ownBlock = some k) vh r.q.f2
  told : k53.R 53 w 0 T vt r.told
  sw : ∀ k, vw.ownBlock = some k → S k ∧ k < w.heap.size ∧ vb.ownBlock ≠ some k
  sb : ∀ k, vb.ownBlock = some k → S k
  sh : ∀ k, vh.ownBlock = some k → S k ∧ ¬ T k
  st : ∀ k, T k → S k ∧ k < w.heap.size

section
variable {w w1 : World} {S : Nat → Prop} {g : Nat} {r : Rd} {vw vh vb vt : Value} {T : Nat → Prop}
theorem cell_of_heap {cs : Array Value} {t : TypeId} (h : w.heap[g]? = some (.cells cs t (0, 0))) (i : Nat) (v : Value) (hi : cs[i]? = some v) : w.cell? ⟨g, i, none⟩ = some v := by
  simp [World.cell?, h, hi]
theorem frozen_of_heap {cs : Array Value} {t : TypeId} (h : w.heap[g]? = some (.cells cs t (0, 0))) (i : Nat) : w.frozen? ⟨g, i, none⟩ = false := by
  simp [World.frozen?, h]
theorem heap_set {cs : Array Value} {t : TypeId} (h : w.heap[g]? = some (.cells cs t (0, 0))) (i : Nat) (v : Value) : (w.setCell ⟨g, i, none⟩ v).heap[g]? = some (.cells (cs.setIfInBounds i v) t (0, 0)) := by
  obtain ⟨hlt, hk⟩ := Array.getElem?_eq_some_iff.1 h
  show (w.heap.modify g _)[g]? = _
  rw [Array.getElem?_eq_getElem (by rw [Array.size_modify]; exact hlt), Array.getElem_modify_self, hk]
  rfl
theorem Cut5.over {v : Value} {xs : List UInt8} {cs : Array Value} (h : Cut5 w v xs) (hf : Frame (fun k => k = g) w w1) (hg : w.heap[g]? = some (.cells cs 56 (0, 0))) : Cut5 w1 v xs :=
  h.move fun k c _ hh => hf.block k (Array.getElem?_eq_some_iff.1 hh).1 (fun e => by rw [e, hg] at hh; injection hh with hh; injection hh with _ ht; cases ht)
/-- Another make of the same reader, the rows having moved. -/
theorem RdAt.lt (h : RdAt w S g r vw vh vb vt T) : g < w.heap.size := (Array.getElem?_eq_some_iff.1 h.cells).1
theorem RdAt.move (h : RdAt w S g r vw vh vb vt T) (hs : w.heap.size ≤ w1.heap.size) (hm : ∀ k, S k → k < w.heap.size → w1.heap[k]? = w.heap[k]?) : RdAt w1 S g r vw vh vb vt T where
  cells := (hm g h.own h.lt).trans h.cells
  own := h.own
  wait := h.wait.move fun k _ hk hh => hm k (h.sw k hk).1 (Array.getElem?_eq_some_iff.1 hh).1
  body := own_move h.body fun k hk => hm k (h.sb k hk) (own_lt h.body k hk)
  heads := Kd.R_step h.heads fun k hk hl => hm k (h.sh k hk).1 hl
  told := Kd.R_step h.told fun k hk hl => hm k (h.st k hk).1 hl
  sw := fun k hk => ⟨(h.sw k hk).1, Nat.lt_of_lt_of_le (h.sw k hk).2.1 hs, (h.sw k hk).2.2⟩
  sb := h.sb
  sh := h.sh
  st := fun k hk => ⟨(h.st k hk).1, Nat.lt_of_lt_of_le (h.st k hk).2 hs⟩
theorem RdAt.drewN (h : RdAt w S g r vw vh vb vt T) (n : Nat) : RdAt (w.drewN n) S g r vw vh vb vt T := h.move (Nat.le_refl _) (fun _ _ _ => rfl)
/-- The reader's own cells have been written; its rows are as they were. -/
theorem RdAt.turn {r1 : Rd} {vw1 : Value} (h : RdAt w S g r vw vh vb vt T) (hg : w1.heap[g]? = some (.cells (cellsRd g r1 vw1 vh vb vt) 56 (0, 0))) (hs : w.heap.size ≤ w1.heap.size) (hm : ∀ k, k ≠ g → k < w.heap.size → w1.heap[k]? = w.heap[k]?)
    (hw : Cut5 w vw1 r1.wait) (hwb : ∀ k, vw1.ownBlock = some k → vw.ownBlock = some k) (hb : r1.body = r.body) (hh : r1.q.f2 = r.q.f2) (ht : r1.told = r.told) : RdAt w1 S g r1 vw1 vh vb vt T where
  cells := hg
  own := h.own
  wait := hw.move fun k c hk hh => hm k (fun e => by rw [e, h.cells] at hh; injection hh with hh; injection hh with _ ht; cases ht) (Array.getElem?_eq_some_iff.1 hh).1
  body := by
    rw [hb]
    refine own_move h.body fun k hk => hm k (fun e => ?_) (own_lt h.body k hk)
    obtain ⟨c, hc⟩ := own_typed h.body k hk
    rw [e, h.cells] at hc; injection hc with hc; injection hc with _ ht; cases ht
  heads := by
    rw [hh]
    refine Kd.R_mono (Kd.R_move (Kd.R_bound h.heads) fun k hk => hm k (fun e => ?_) hk.2.2.1) (fun _ hk => hk.1)
    obtain ⟨_, _, _, q, hq, c, hc⟩ := hk
    rw [e, h.cells] at hc; injection hc with hc; injection hc with _ ht
    have hE : k38.E = [] := rfl
    rw [hE, ← ht] at hq; exact absurd hq (by decide)
  told := by
    rw [ht]
    refine Kd.R_mono (Kd.R_move (Kd.R_bound h.told) fun k hk => hm k (fun e => ?_) hk.2.2.1) (fun _ hk => hk.1)
    obtain ⟨_, _, _, q, hq, c, hc⟩ := hk
    rw [e, h.cells] at hc; injection hc with hc; injection hc with _ ht
    have hE : k53.E = [38] := rfl
    rw [hE, ← ht] at hq; exact absurd hq (by decide)
  sw := fun k hk => ⟨(h.sw k (hwb k hk)).1, Nat.lt_of_lt_of_le (h.sw k (hwb k hk)).2.1 hs, (h.sw k (hwb k hk)).2.2⟩
  sb := h.sb
  sh := h.sh
  st := fun k hk => ⟨(h.st k hk).1, Nat.lt_of_lt_of_le (h.st k hk).2 hs⟩
/-- A reader put together: its rows lie in w1, its cells in w2, which is w1 but for block g. -/
theorem RdAt.make {w2 : World} {cs : Array Value} (hg1 : w1.heap[g]? = some (.cells cs 56 (0, 0))) (hm : ∀ k, k ≠ g → k < w1.heap.size → w2.heap[k]? = w1.heap[k]?) (hs : w1.heap.size ≤ w2.heap.size)
    (hc : w2.heap[g]? = some (.cells (cellsRd g r vw vh vb vt) 56 (0, 0))) (own : S g) (wait : Cut5 w1 vw r.wait) (body : w1.ownsRow 0 5 1 vb r.body.length (nums .u8 (ints r.body))) {U : Nat → Prop} (heads : k38.R 38 w1 0 U vh r.q.f2) (told : k53.R 53 w1 0 T vt r.told)
    (sw : ∀ k, vw.ownBlock = some k → S k ∧ k < w1.heap.size ∧ vb.ownBlock ≠ some k) (sb : ∀ k, vb.ownBlock = some k → S k) (sh : ∀ k, vh.ownBlock = some k → k < w1.heap.size → S k ∧ ¬ T k) (st : ∀ k, T k → k < w1.heap.size → S k) :
    RdAt w2 S g r vw vh vb vt (fun k => T k ∧ k < w1.heap.size) where
  cells := hc
  own := own
  wait := wait.move fun k c hk hh => hm k (fun e => by rw [e, hg1] at hh; injection hh with hh; injection hh with _ ht; cases ht) (Array.getElem?_eq_some_iff.1 hh).1
  body := by
    refine own_move body fun k hk => hm k (fun e => ?_) (own_lt body k hk)
    obtain ⟨c, hc⟩ := own_typed body k hk
    rw [e, hg1] at hc; injection hc with hc; injection hc with _ ht; cases ht
  heads := by
    obtain ⟨_, inner, ho, hr⟩ := heads
    have h1 : k38.R 38 w1 0 (fun k => vh.ownBlock = some k) vh r.q.f2 := by
      refine ⟨fun k hk => hk, inner, ho, hr.imp_ (fun x c hp => ?_)⟩
      obtain rfl := k38_openM hp
      exact k38_mkM _ _ _ _
    refine Kd.R_mono (Kd.R_move (Kd.R_bound h1) fun k hk => hm k (fun e => ?_) hk.2.2.1) (fun _ hk => hk.1)
    obtain ⟨_, _, _, q, hq, c, hc⟩ := hk
    rw [e, hg1] at hc; injection hc with hc; injection hc with _ ht
    have hE : k38.E = [] := rfl
    rw [hE, ← ht] at hq; exact absurd hq (by decide)
  told := by
    refine Kd.R_mono (Kd.R_move (Kd.R_bound told) fun k hk => hm k (fun e => ?_) hk.2.2.1) (fun _ hk => ⟨hk.1, hk.2.2.1⟩)
    obtain ⟨_, _, _, q, hq, c, hc⟩ := hk
    rw [e, hg1] at hc; injection hc with hc; injection hc with _ ht
    have hE : k53.E = [38] := rfl
    rw [hE, ← ht] at hq; exact absurd hq (by decide)
  sw := fun k hk => ⟨(sw k hk).1, Nat.lt_of_lt_of_le (sw k hk).2.1 hs, (sw k hk).2.2⟩
  sb := sb
  sh := fun k hk => by
    obtain ⟨_, inner, ho, _⟩ := heads
    have hl := own_lt ho k hk
    exact ⟨(sh k hk hl).1, fun hc => (sh k hk hl).2 hc.1⟩
  st := fun k hk => ⟨st k hk.1 hk.2, Nat.lt_of_lt_of_le hk.2 hs⟩
theorem R_typed {α : Type} {d : Kd α} {e : Nat} {base : Nat} {ok : Nat → Prop} {v : Value} {xs : List α} (h : d.R e w base ok v xs) (k : Nat) (hk : v.ownBlock = some k) : ∃ c, w.heap[k]? = some (.cells c e (0, 0)) := by
  obtain ⟨_, inner, ho, _⟩ := h
  exact own_typed ho k hk
theorem R_lt {α : Type} {d : Kd α} {e : Nat} {base : Nat} {ok : Nat → Prop} {v : Value} {xs : List α} (h : d.R e w base ok v xs) (k : Nat) (hk : v.ownBlock = some k) : k < w.heap.size := by
  obtain ⟨_, inner, ho, _⟩ := h
  exact own_lt ho k hk
/-- A block of another type is another block. -/
theorem typed_ne {k k' : Nat} {c c' : Array Value} {t t' : TypeId} {fr fr' : Nat × Nat} (h : w.heap[k]? = some (.cells c t fr)) (h' : w.heap[k']? = some (.cells c' t' fr')) (hne : t ≠ t') : k ≠ k' := by
  intro e
  rw [e, h'] at h
  injection h with h
  injection h with _ ht
  exact hne ht.symm
/-- w' is w but for block g, which holds cs now. -/
structure Chg (g : Nat) (t : TypeId) (w w' : World) (cs : Array Value) : Prop where
  frame : Frame (fun k => k = g) w w'
  same : ∀ k, k ≠ g → k < w.heap.size → w'.heap[k]? = w.heap[k]?
  heap : w'.heap[g]? = some (.cells cs t (0, 0))
theorem Chg.start {cs : Array Value} {t : TypeId} (h : w.heap[g]? = some (.cells cs t (0, 0))) : Chg g t w w cs := ⟨Frame.refl _ _, same_refl g w, h⟩
theorem Chg.put {cs : Array Value} {t : TypeId} (h : Chg g t w w1 cs) (i : Nat) (v : Value) : Chg g t w (w1.setCell ⟨g, i, none⟩ v) (cs.setIfInBounds i v) := ⟨h.frame.put i v, same_put h.same i v, heap_set h.heap i v⟩
theorem Chg.drew {cs : Array Value} {t : TypeId} (h : Chg g t w w1 cs) : Chg g t w w1.drew cs := ⟨h.frame.drew, h.same, h.heap⟩
theorem Chg.drewN {cs : Array Value} {t : TypeId} (h : Chg g t w w1 cs) (n : Nat) : Chg g t w (w1.drewN n) cs := ⟨h.frame.drewN n, h.same, h.heap⟩
theorem Chg.cast {cs cs' : Array Value} {t : TypeId} (h : Chg g t w w1 cs) (e : cs = cs') : Chg g t w w1 cs' := e ▸ h
end
end Go.Proofs.YtafhkpnmolfjeaaGreatDoor.Rq

/-! ## RqV: visible: all bytes of a text stand between two. -/
set_option linter.unusedVariables false
set_option linter.unusedSimpArgs false
namespace Go.Proofs.YtafhkpnmolfjeaaGreatDoor.Rq
open Go.RowKit Go.Proofs.YtafhkpnmolfjeaaGreatDoorW.PrintWords Go.Proofs.YtafhkpnmolfjeaaGreatDoor.PRequestBack

def outB (fr hi : Nat) (x : Nat) : Bool := decide (x < fr) || decide (hi < x)
def visB (fr hi : Nat) (s : ByteArray) : Bool := s.data.toList.all fun b => !outB fr hi b.toNat
theorem decode_low (s : ByteArray) (i : Nat) (h : (s.get! i).toNat < 128) : Utf8.decode s i = ((s.get! i).toNat, 1) := by
  simp only [Utf8.decode, Nat.add_zero]
  rw [if_pos h]
theorem decode_high (s : ByteArray) (i : Nat) (h : ¬ (s.get! i).toNat < 128) : 128 ≤ (Utf8.decode s i).1 := by
  have hr : 128 ≤ Utf8.runeError := by decide
  simp only [Utf8.decode, Nat.add_zero]
  rw [if_neg h]
  split
  · split
    · assumption
    · exact hr
  · split
    · split
      · rename_i hc; simp only [Bool.and_eq_true, decide_eq_true_eq] at hc; show 128 ≤ _; omega
      · exact hr
    · split
      · split
        · rename_i hc; simp only [Bool.and_eq_true, decide_eq_true_eq] at hc; show 128 ≤ _; omega
        · exact hr
      · exact hr
theorem get_bang (s : ByteArray) (i : Nat) (h : i < s.data.toList.length) : s.get! i = s.data.toList[i] := by
  have h' : i < s.data.size := by simpa using h
  simp only [ByteArray.get!, Array.getElem_toList]
  exact getElem!_pos s.data i h'
theorem idx_vis (fr hi : Nat) (ht : hi < 128) (s : ByteArray) : ∀ (f pos : Nat), s.size ≤ pos + f → (Lib.idxFuncFrom (outB fr hi) true s f pos < 0 ↔ ((s.data.toList.drop pos).all fun b => !outB fr hi b.toNat) = true)
  | 0, pos, h => by
    have : s.data.toList.drop pos = [] := List.drop_eq_nil_of_le (by rw [data_length]; omega)
    simp [Lib.idxFuncFrom, this]
  | f + 1, pos, h => by
    unfold Lib.idxFuncFrom
    by_cases hp : pos < s.size
    · have hl : pos < s.data.toList.length := by rw [data_length]; exact hp
      rw [if_pos hp, List.drop_eq_getElem_cons hl, List.all_cons]
      have hg := get_bang s pos hl
      by_cases hb : (s.get! pos).toNat < 128
      · rw [decode_low s pos hb]
        simp only [hg]
        by_cases ho : outB fr hi (s.data.toList[pos]).toNat = true
        · rw [if_pos ho]
          simp only [ho, Bool.not_true, Bool.false_and]
          constructor
          · intro h; omega
          · intro h; cases h
        · rw [if_neg ho]
          have ho' : outB fr hi (s.data.toList[pos]).toNat = false := by simpa using ho
          rw [idx_vis fr hi ht s f (pos + 1) (by omega)]
          simp only [ho', Bool.not_false, Bool.true_and]
      · have hd := decode_high s pos hb
        have ho : outB fr hi (Utf8.decode s pos).1 = true := by simp only [outB, Bool.or_eq_true, decide_eq_true_eq]; right; omega
        have ho' : outB fr hi (s.data.toList[pos]).toNat = true := by
          rw [hg] at hb
          simp only [outB, Bool.or_eq_true, decide_eq_true_eq]; right; omega
        rw [if_pos ho]
        simp only [ho', Bool.not_true, Bool.false_and]
        constructor
        · intro h; omega
        · intro h; cases h
    · rw [if_neg hp]
      have : s.data.toList.drop pos = [] := List.drop_eq_nil_of_le (by rw [data_length]; omega)
      simp [this]
theorem vis_eq (fr hi : Nat) (ht : hi < 128) (s : ByteArray) : (!decide (0 ≤ Lib.idxFunc (outB fr hi) true s)) = visB fr hi s := by
  have h := idx_vis fr hi ht s s.size 0 (by omega)
  rw [List.drop_zero] at h
  unfold visB Lib.idxFunc
  rw [Bool.eq_iff_iff]
  rw [← h]
  simp

set_option maxRecDepth 100000 in
set_option maxHeartbeats 400000 in
theorem visible1_calls (fr hi x : Nat) (hf : fr < 128) (ht : hi < 128) (hx : x ≤ 1114111) (b1 b2 : Nat) (w : World) (h1 : w.cell? ⟨b1, 0, none⟩ = some (.int .u8 fr)) (h2 : w.cell? ⟨b2, 0, none⟩ = some (.int .u8 hi)) :
    Calls Tryz.prog 166 #[.int .i32 x, .pointer (some ⟨b1, 0, none⟩), .pointer (some ⟨b2, 0, none⟩)] w fun e w' => e = .returned (.bool (outB fr hi x)) ∧ w = w' := by
  by_cases ha : x < fr
  · have ha' : decide ((x : Int) < fr) = true := by simp; omega
    go_enter Tryz.func166, Tryz.ntmps166
    go_wp2
    go_ret
    exact ⟨by simp [outB, ha], rfl⟩
  · have ha' : decide ((x : Int) < fr) = false := by simp; omega
    go_enter Tryz.func166, Tryz.ntmps166
    go_wp2
    go_ret
    exact ⟨by simp [outB, ha], rfl⟩

theorem enters166 : ∀ args w, (callFunc 166 args).run Tryz.prog w = .ok (.enter 166 args) w := enters_of Tryz.func166 (by kernel_rfl) rfl
set_option maxRecDepth 100000 in
set_option maxHeartbeats 400000 in
theorem visible_calls (a b : Int) (fr hi : Nat) (ea : a = fr) (eb : b = hi) (hf : fr < 128) (ht : hi < 128) (s : ByteArray) (w : World) :
    Calls Tryz.prog 132 #[.string s, .int .u8 a, .int .u8 b] w fun e w' => e = .returned (.bool (visB fr hi s)) ∧ Below w.heap.size w w' := by
  subst ea eb
  have hv := Aside0.mk (vis_eq fr hi ht s)
  go_enter Tryz.func132, Tryz.ntmps132
  go_wp2_with fail
  refine (Tryz.strings_ContainsFunc_grows 166 _ enters166 (outB fr hi) s _ ?_).mono ?_
  · intro W x hx hb
    have h0 := new_cell w #[.int .u8 fr] 5 (0, 0) 0
    have h1 := new_cell (w.alloc (.cells #[.int .u8 fr] 5)) #[.int .u8 hi] 5 (0, 0) 0
    have h0' := pw_cell_below ((Below.refl (w.alloc (.cells #[.int .u8 fr] 5)).heap.size (w.alloc (.cells #[.int .u8 fr] 5))).alloc (Nat.le_refl _) (.cells #[.int .u8 hi] 5)) h0
    have e1 := pw_cell_below hb h0'
    have e2 := pw_cell_below hb h1
    rw [World.size_alloc] at e2
    refine (visible1_calls fr hi x hf ht hx w.heap.size (w.heap.size + 1) W e1 e2).mono ?_
    rintro e w' ⟨rfl, rfl⟩
    exact ⟨rfl, Below.refl _ _⟩
  · rintro e w1 ⟨rfl, hb⟩
    have HB := Aside0.mk (((Below.refl w.heap.size w).alloc (Nat.le_refl _) (.cells #[.int .u8 fr] 5)).alloc (by simp) (.cells #[.int .u8 hi] 5) |>.trans (hb.mono (by simp; omega)))
    clear hb
    go_wp2
    go_ret
    exact ⟨by rw [← hv.out]; rfl, HB.out⟩
end Go.Proofs.YtafhkpnmolfjeaaGreatDoor.Rq

/-! ## Rq1: Walks of the reader's small methods. -/
set_option linter.unusedVariables false
set_option linter.unusedSimpArgs false
namespace Go.Proofs.YtafhkpnmolfjeaaGreatDoor.Rq
open Go.RowKit Go.Proofs.YtafhkpnmolfjeaaGreatDoorW.PrintWords Go.Proofs.YtafhkpnmolfjeaaGreatDoor.PRequestBack

set_option maxRecDepth 100000 in
set_option maxHeartbeats 400000 in
theorem take_calls {w : World} {S : Nat → Prop} {g : Nat} {r : Rd} {vw vh vb vt : Value} {T : Nat → Prop} (h : RdAt w S g r vw vh vb vt T) (n : Int) (h0 : 0 ≤ n) (h1 : n ≤ r.wait.length) (hu0 : 0 ≤ r.used) (hu : r.used + n ≤ 4611686018427387904) :
    Calls Tryz.prog 131 #[.pointer (some ⟨g, 0, none⟩), .int .i64 n] w fun e w' => e = .returned (cutV vw 0 n.toNat) ∧ Frame (fun k => k = g) w w' ∧
      RdAt w' S g { r with wait := r.wait.drop n.toNat, used := r.used + n } (cutV vw n.toNat r.wait.length) vh vb vt T := by
  obtain ⟨Aw, cw, rfl, hw0⟩ := h.wait.sl
  have hw : isSl (.slice Aw r.wait.length cw) r.wait.length := ⟨Aw, cw, rfl, hw0⟩
  obtain ⟨A1, c1, e1, -⟩ := cutV_sl hw 0 n.toNat (by omega) (by omega)
  obtain ⟨A2, c2, e2, -⟩ := cutV_sl hw n.toNat r.wait.length (by omega) (Nat.le_refl _)
  have s1 := run_cut_h hw n h0 h1
  have s2 := run_cut_l hw n h0 h1
  rw [e1] at s1
  rw [e2] at s2
  have E1 := Aside0.mk e1
  have E2 := Aside0.mk e2
  clear e1 e2 hw0 hw
  have k0 := cell_of_heap h.cells 0 (.slice Aw r.wait.length cw) rfl
  have k1 := cell_of_heap h.cells 1 (.int .i64 r.used) rfl
  have f0 := frozen_of_heap h.cells 0
  have f1 := frozen_of_heap h.cells 1
  have H := Aside0.mk h
  clear h
  go_enter Tryz.func131, Tryz.ntmps131
  go_wp2
  go_ret
  refine ⟨by rw [E1.out]; simp, ((Frame.refl _ _).put 0 _).put 1 _, ?_⟩
  have hc := H.out.wait.cut n.toNat r.wait.length (by omega) (Nat.le_refl _)
  rw [List.take_length] at hc
  refine H.out.turn ?_ (by simp) (fun k hk _ => by rw [Below.heap_setCell _ _ _ _ hk, Below.heap_setCell _ _ _ _ hk]) hc (fun k hk => by rwa [cutV_block] at hk) rfl rfl rfl
  rw [heap_set (heap_set H.out.cells 0 _) 1 _, E2.out]
  simp [cellsRd]

/-- Where 13, 10 stands first; -1: nowhere. -/
def crlf (xs : List UInt8) : Int := Lib.index xs [13, 10]
theorem crlf_range : ∀ xs : List UInt8, -1 ≤ crlf xs ∧ crlf xs + 2 ≤ xs.length ∨ crlf xs = -1
  | [] => .inr (by simp [crlf, Lib.index])
  | x :: xs => by
    have ih := crlf_range xs
    unfold crlf at ih ⊢
    simp only [Lib.index]
    split
    · rename_i h
      have : [13, 10].length ≤ (x :: xs).length := (List.isPrefixOf_iff_prefix.1 h).length_le
      simp only [List.length_cons, List.length_nil] at this ⊢
      left; omega
    · split
      · exact .inr rfl
      · rename_i h
        have h' : ¬ Lib.index xs [13, 10] = -1 := by simpa using h
        simp only [List.length_cons]
        rcases ih with ih | ih
        · left; omega
        · exact absurd ih h'
theorem index_crlf {w1 : World} {Aw : Option Addr} {cw : Nat} {xs : List UInt8} {mx : Int} (hmx : w1.cell? ⟨1, 0, none⟩ = some (.int .i64 mx)) (h : Cut5 w1 (.slice Aw xs.length cw) xs) (hn : xs.length < 4294967281) (B : Nat)
    (h0 : w1.cell? ⟨B, 0, none⟩ = some (.int .u8 13)) (h1 : w1.cell? ⟨B, 1, none⟩ = some (.int .u8 10)) :
    Calls Tryz.prog 130 #[.slice Aw xs.length cw, .slice (some ⟨B, 0, none⟩) 2 2] w1 fun e w' => e = .returned (.int .i64 (crlf xs)) ∧ ∃ q, w' = w1.drewN q := by
  rcases Nat.eq_zero_or_pos xs.length with hz | hp
  · have : xs = [] := List.eq_nil_of_length_eq_zero hz
    subst this
    cases Aw with
    | none =>
      obtain ⟨A, c, hv, h2, h3, h4, _⟩ := h.sl
      injection hv with e1 _ e3
      obtain rfl : cw = 0 := by rw [e3]; exact h4 e1.symm
      refine (Tryz.bytes_Index_nil (some ⟨B, 0, none⟩) 2 2 w1 (by omega) (by omega)).mono ?_
      rintro e w' ⟨rfl, rfl⟩
      exact ⟨by simp [crlf, Lib.index], 0, rfl⟩
    | some a =>
      refine (Tryz.bytes_Index_at a ⟨B, 0, none⟩ 0 cw 2 2 [] [13, 10] mx w1 rfl rfl (by simp) (by simp) (by intro i hi; omega) ?_ (by omega) (by omega) (by omega) hmx).mono ?_
      · intro i hi
        match i, hi with
        | 0, _ => simpa [Addr.add] using h0
        | 1, _ => simpa [Addr.add] using h1
      · rintro e w' ⟨rfl, hq⟩
        exact ⟨by simp [crlf, Lib.bytesOf], hq⟩
  · obtain ⟨ad, c, hv, hle, hc⟩ := h.cell hp
    injection hv with e1 _ e3
    subst e1 e3
    refine (Tryz.bytes_Index_at ad ⟨B, 0, none⟩ xs.length cw 2 2 (ints xs) [13, 10] mx w1 (ints_length xs) rfl ?_ (by simp) hc ?_ hle hn (by omega) hmx).mono ?_
    · intro x hx
      simp only [ints, List.mem_map] at hx
      obtain ⟨y, _, rfl⟩ := hx
      have := y.toNat_lt
      omega
    · intro i hi
      match i, hi with
      | 0, _ => simpa [Addr.add] using h0
      | 1, _ => simpa [Addr.add] using h1
    · rintro e w' ⟨rfl, hq⟩
      exact ⟨by rw [bytesOf_ints]; simp [crlf, Lib.bytesOf], hq⟩

set_option maxRecDepth 100000 in
set_option maxHeartbeats 400000 in
theorem line_no {w : World} {S : Nat → Prop} {g : Nat} {r : Rd} {vw vh vb vt : Value} {T : Nat → Prop} {mx : Int} (hmx : w.cell? ⟨1, 0, none⟩ = some (.int .i64 mx)) (h : RdAt w S g r vw vh vb vt T) (most : Int) (hm0 : 0 ≤ most) (hm1 : most ≤ 65536) (hw : r.wait.length < 4294967281)
    (hi : crlf r.wait < 0 ∨ most < crlf r.wait + 2) :
    Calls Tryz.prog 103 #[.pointer (some ⟨g, 0, none⟩), .int .i64 most] w fun e w' => e = .returned (.tuple #[.slice none 0 0, .bool (decide (most ≤ r.wait.length)), .bool false]) ∧ Below w.heap.size w w' := by
  obtain ⟨Aw, cw, rfl, hw0⟩ := h.wait.sl
  have hcl := crlf_range r.wait
  have k0 := cell_of_heap h.cells 0 (.slice Aw r.wait.length cw) rfl
  have HW := Aside0.mk h.wait
  have HM := Aside0.mk hmx
  clear h hmx hw0
  have cv := conv40
  go_enter Tryz.func103, Tryz.ntmps103
  go_wp2_with fail
  refine (index_crlf (mx := mx) ?_ ?_ hw w.heap.size ?_ ?_).mono ?_
  · exact pw_cell_below ((Below.refl _ _).alloc (Nat.le_refl _) _) HM.out
  · exact HW.out.move fun k c _ hk => Below.heap_alloc _ _ _ (Array.getElem?_eq_some_iff.1 hk).1
  · exact new_cell _ _ _ _ 0
  · exact new_cell _ _ _ _ 1
  rintro e w1 ⟨rfl, q, rfl⟩
  clear cv
  generalize crlf r.wait = i at *
  have HB := pw_below_drewN ((Below.refl w.heap.size w).alloc (Nat.le_refl _) (.cells #[.int .u8 13, .int .u8 10] 5 (2, 3))) q
  revert HB
  generalize (w.alloc (.cells #[.int .u8 13, .int .u8 10] 5 (2, 3))).drewN q = W1
  intro HB
  replace k0 := pw_cell_below HB k0
  go_wp2
  all_goals go_quiet (fail)
  all_goals go_wp2
  all_goals go_ret3
  all_goals exact ⟨rfl, pw_below_drewN HB _⟩

set_option maxRecDepth 100000 in
set_option maxHeartbeats 400000 in
theorem line_ok {w : World} {S : Nat → Prop} {g : Nat} {r : Rd} {vw vh vb vt : Value} {T : Nat → Prop} {mx : Int} (hmx : w.cell? ⟨1, 0, none⟩ = some (.int .i64 mx)) (h : RdAt w S g r vw vh vb vt T) (most : Int) (hm1 : most ≤ 65536) (hw : r.wait.length < 4294967281)
    (hu0 : 0 ≤ r.used) (hu : r.used + r.wait.length ≤ 4611686018427387904) (i : Nat) (hi : crlf r.wait = i) (him : ¬ most < (i : Int) + 2) :
    Calls Tryz.prog 103 #[.pointer (some ⟨g, 0, none⟩), .int .i64 most] w fun e w' => ∃ l vw1, e = .returned (.tuple #[l, .bool false, .bool true]) ∧ Cut5 w' l (r.wait.take i) ∧ l.ownBlock = vw.ownBlock ∧
      RdAt w' S g { r with wait := r.wait.drop (i + 2), used := r.used + (i + 2) } vw1 vh vb vt T ∧ vw1.ownBlock = vw.ownBlock ∧ Frame (fun k => k = g) w w' := by
  obtain ⟨Aw, cw, rfl, hw0⟩ := h.wait.sl
  have hcl := crlf_range r.wait
  have k0 := cell_of_heap h.cells 0 (.slice Aw r.wait.length cw) rfl
  have H := Aside0.mk h
  have HM := Aside0.mk hmx
  rw [hi] at hcl
  have HI := Aside0.mk hi
  clear h hmx hw0 hi
  have cv := conv40
  go_enter Tryz.func103, Tryz.ntmps103
  go_wp2_with fail
  refine (index_crlf (mx := mx) ?_ ?_ hw w.heap.size ?_ ?_).mono ?_
  · exact pw_cell_below ((Below.refl _ _).alloc (Nat.le_refl _) _) HM.out
  · exact H.out.wait.move fun k c _ hk => Below.heap_alloc _ _ _ (Array.getElem?_eq_some_iff.1 hk).1
  · exact new_cell _ _ _ _ 0
  · exact new_cell _ _ _ _ 1
  rintro e w1 ⟨rfl, q, rfl⟩
  clear cv
  rw [HI.out]
  have HB := pw_below_drewN ((Below.refl w.heap.size w).alloc (Nat.le_refl _) (.cells #[.int .u8 13, .int .u8 10] 5 (2, 3))) q
  revert HB
  generalize (w.alloc (.cells #[.int .u8 13, .int .u8 10] 5 (2, 3))).drewN q = W1
  intro HB
  have H1 := Aside0.mk (H.out.move HB.size (fun k _ hk => HB.block k hk))
  have n0 : ¬ ((i : Int) < 0) := by omega
  go_wp2_with fail
  refine (take_calls H1.out ((i : Int) + 2) (by omega) (by omega) hu0 (by omega)).mono ?_
  rintro e w2 ⟨rfl, HF, H2⟩
  rw [show ((i : Int) + 2).toNat = i + 2 from by omega] at *
  have hwl : (cutV (.slice Aw r.wait.length cw) 0 (i + 2)).ownBlock = (Value.slice Aw r.wait.length cw).ownBlock := cutV_block _ _ _
  have hcut := (H1.out.wait.cut 0 (i + 2) (by omega) (by omega)).over HF H1.out.cells
  simp only [List.drop_zero] at hcut
  have hl2 : (r.wait.take (i + 2)).length = i + 2 := by simp; omega
  have hcut2 := hcut.cut 0 i (by omega) (by omega)
  rw [List.drop_zero, List.take_take, Nat.min_eq_left (by omega : i ≤ i + 2)] at hcut2
  have hs := hcut.sl
  rw [hl2] at hs
  have e2 := run_cut_h hs (i : Int) (by omega) (by omega)
  rw [show ((i : Int)).toNat = i from by omega] at e2
  obtain ⟨A3, c3, e3, -⟩ := hcut2.sl
  have hl3 : (r.wait.take i).length = i := by simp; omega
  rw [hl3] at e3
  rw [e3] at e2
  obtain ⟨A1, c1, e1, -⟩ := hs
  rw [e1] at e2 ⊢
  have hb3 : (cutV (cutV (.slice Aw r.wait.length cw) 0 (i + 2)) 0 i).ownBlock = (Value.slice Aw r.wait.length cw).ownBlock := (cutV_block _ _ _).trans hwl
  rw [e3] at hb3 hcut2
  have Z := Aside0.mk (And.intro hcut2 (And.intro hb3 (And.intro HF H2)))
  clear hcut hcut2 hb3 HF H2 hwl hl2 hl3 e3 e1 H1 H
  go_wp2
  go_ret3
  refine ⟨.slice A3 i c3, _, rfl, Z.out.1, Z.out.2.1, Z.out.2.2.2, cutV_block _ _ _, (Frame.of_below HB).trans Z.out.2.2.1⟩
end Go.Proofs.YtafhkpnmolfjeaaGreatDoor.Rq

/-! ## RqF: Walk of the reader's first. -/
set_option linter.unusedVariables false
set_option linter.unusedSimpArgs false
namespace Go.Proofs.YtafhkpnmolfjeaaGreatDoor.Rq
open Go.RowKit Go.Proofs.YtafhkpnmolfjeaaGreatDoorW.PrintWords Go.Proofs.YtafhkpnmolfjeaaGreatDoor.PRequestBack

/-- A text cut at its first two blanks. -/
def parts3 (s : ByteArray) : List ByteArray := Lib.splitB ⟨#[32]⟩ 0 (min 3 (s.size + 1) - 1) s
theorem parts3_len (s : ByteArray) : (parts3 s).length ≤ 3 := by
  have := Lib.splitB_length_le ⟨#[32]⟩ 0 (min 3 (s.size + 1) - 1) s
  unfold parts3
  omega
theorem split3_calls (s : ByteArray) (w : World) {mx : Int} (hm : w.cell? ⟨1, 0, none⟩ = some (.int .i64 mx)) (hs : s.size < 4294967281) :
    Calls Tryz.prog 66 #[.string s, .string ⟨#[32]⟩, .int .i64 3] w fun e w' => ∃ c, e = .returned (.slice (some ⟨w.heap.size, 0, none⟩) (parts3 s).length c) ∧ Below w.heap.size w w' ∧ (∀ i x, (parts3 s)[i]? = some x → w'.cell? ⟨w.heap.size, i, none⟩ = some (.string x)) := by
  refine (Tryz.strings_SplitN s ⟨#[32]⟩ 3 mx w hs hm (by decide) (by omega) (by omega)).mono ?_
  rintro e w' ⟨rfl, rfl⟩
  refine ⟨_, rfl, (Below.refl _ _).alloc (Nat.le_refl _) _, fun i x hx => ?_⟩
  rw [new_cell]
  have hl := (List.getElem?_eq_some_iff.1 hx).1
  have : ((parts3 s).map Value.string ++ List.replicate (min 3 (s.size + 1) - (parts3 s).length) (Value.string ByteArray.empty))[i]? = some (.string x) := by
    rw [List.getElem?_append_left (by simpa using hl), List.getElem?_map, hx]; rfl
  simpa [Lib.cellsOf, parts3] using this
def slash : ByteArray := ⟨#[47]⟩
def goodFirst (a b : ByteArray) : Bool := !decide (a.size < 1) && !decide (8 < a.size) && visB 65 90 a && Lib.hasPrefix b.data.toList slash.data.toList && visB 33 126 b

set_option maxRecDepth 100000 in
set_option maxHeartbeats 800000 in
theorem first_short (p : Option Addr) (s : ByteArray) (w : World) {mx : Int} (hm : w.cell? ⟨1, 0, none⟩ = some (.int .i64 mx)) (hs : s.size < 4294967281) (hb : (parts3 s).length < 3) :
    Calls Tryz.prog 105 #[.pointer p, .string s] w fun e w' => e = .returned (.bool false) ∧ Below w.heap.size w w' := by
  have HM := Aside0.mk hm
  clear hm
  have hd : decide (((parts3 s).length : Int) < 3) = true := by simp; omega
  go_enter Tryz.func105, Tryz.ntmps105
  go_wp2_with fail
  refine (split3_calls s w HM.out hs).mono ?_
  rintro e w1 ⟨c, rfl, hB, hc⟩
  have HB := Aside0.mk hB
  clear hB hc
  go_wp2_with fail
  go_ret
  exact ⟨rfl, HB.out⟩
set_option maxRecDepth 100000 in
set_option maxHeartbeats 800000 in
theorem first_bad (p : Option Addr) (s : ByteArray) (w : World) {mx : Int} (hm : w.cell? ⟨1, 0, none⟩ = some (.int .i64 mx)) (hs : s.size < 4294967281) (a b d : ByteArray) (hp : parts3 s = [a, b, d]) (hb : goodFirst a b = false) :
    Calls Tryz.prog 105 #[.pointer p, .string s] w fun e w' => e = .returned (.bool false) ∧ Below w.heap.size w w' := by
  have HM := Aside0.mk hm
  have HP := Aside0.mk hp
  clear hm hp
  simp only [goodFirst] at hb
  go_enter Tryz.func105, Tryz.ntmps105
  go_wp2_with fail
  refine (split3_calls s w HM.out hs).mono ?_
  rw [HP.out]
  rintro e w1 ⟨c, rfl, hB, hc⟩
  have c0 := hc 0 a rfl
  have c1 := hc 1 b rfl
  have HB := Aside0.mk hB
  clear hB hc
  by_cases h1 : a.size < 1
  · go_wp2_with fail
    go_ret
    exact ⟨rfl, HB.out⟩
  by_cases h2 : 8 < a.size
  · go_wp2_with fail
    go_ret
    exact ⟨rfl, HB.out⟩
  go_wp2_with fail
  refine (visible_calls 65 90 65 90 rfl rfl (by decide) (by decide) a _).mono ?_
  rintro e w2 ⟨rfl, hB2⟩
  replace c1 := pw_cell_below hB2 c1
  have HB2 := Aside0.mk (HB.out.trans (hB2.mono HB.out.size))
  clear hB2 HB
  cases h3 : visB 65 90 a
  · go_wp2_with fail
    go_ret
    exact ⟨rfl, HB2.out⟩
  go_wp2_with fail
  refine (Tryz.strings_HasPrefix b slash _).mono ?_
  rintro e w3 ⟨rfl, hw3⟩
  subst hw3
  cases h4 : Lib.hasPrefix b.data.toList slash.data.toList
  · go_wp2_with fail
    go_ret
    exact ⟨rfl, HB2.out⟩
  go_wp2_with fail
  refine (visible_calls 33 126 33 126 rfl rfl (by decide) (by decide) b _).mono ?_
  rintro e w4 ⟨rfl, hB4⟩
  have HB4 := Aside0.mk (HB2.out.trans (hB4.mono HB2.out.size))
  clear hB4 HB2
  have h5 : visB 33 126 b = false := by simpa [h1, h2, h3, h4] using hb
  go_wp2_with fail
  go_ret
  exact ⟨rfl, HB4.out⟩

def is10 (d : ByteArray) : Bool := d.toList == [72, 84, 84, 80, 47, 49, 46, 48]
def is11 (d : ByteArray) : Bool := d.toList == [72, 84, 84, 80, 47, 49, 46, 49]
set_option maxRecDepth 100000 in
set_option maxHeartbeats 800000 in
theorem first_good {w : World} {S : Nat → Prop} {g : Nat} {r : Rd} {vw vh vb vt : Value} {T : Nat → Prop} (h : RdAt w S g r vw vh vb vt T) (s : ByteArray) {mx : Int} (hm : w.cell? ⟨1, 0, none⟩ = some (.int .i64 mx)) (hs : s.size < 4294967281) (a b d : ByteArray) (hp : parts3 s = [a, b, d]) (hb : goodFirst a b = true) :
    Calls Tryz.prog 105 #[.pointer (some ⟨g, 0, none⟩), .string s] w fun e w' => e = .returned (.bool (is10 d || is11 d)) ∧ Frame (fun k => k = g) w w' ∧ RdAt w' S g { r with q := { r.q with f0 := a, f1 := b }, old := is10 d || r.old } vw vh vb vt T := by
  have HM := Aside0.mk hm
  have HP := Aside0.mk hp
  have H := Aside0.mk h
  clear hm hp h
  simp only [goodFirst, Bool.and_eq_true, Bool.not_eq_true', decide_eq_false_iff_not] at hb
  obtain ⟨⟨⟨⟨h1, h2⟩, h3⟩, h4⟩, h5⟩ := hb
  go_enter Tryz.func105, Tryz.ntmps105
  go_wp2_with fail
  refine (split3_calls s w HM.out hs).mono ?_
  rw [HP.out]
  rintro e w1 ⟨c, rfl, hB, hc⟩
  have c0 := hc 0 a rfl
  have c1 := hc 1 b rfl
  have c2 := hc 2 d rfl
  have HB := Aside0.mk hB
  clear hB hc
  go_wp2_with fail
  refine (visible_calls 65 90 65 90 rfl rfl (by decide) (by decide) a _).mono ?_
  rintro e w2 ⟨rfl, hB2⟩
  replace c0 := pw_cell_below hB2 c0
  replace c1 := pw_cell_below hB2 c1
  replace c2 := pw_cell_below hB2 c2
  have HB2 := Aside0.mk (HB.out.trans (hB2.mono HB.out.size))
  clear hB2 HB
  go_wp2_with fail
  refine (Tryz.strings_HasPrefix b slash _).mono ?_
  rintro e w3 ⟨rfl, hw3⟩
  subst hw3
  go_wp2_with fail
  refine (visible_calls 33 126 33 126 rfl rfl (by decide) (by decide) b _).mono ?_
  rintro e w4 ⟨rfl, hB4⟩
  replace c0 := pw_cell_below hB4 c0
  replace c1 := pw_cell_below hB4 c1
  replace c2 := pw_cell_below hB4 c2
  have HB4 := Aside0.mk (HB2.out.trans (hB4.mono HB2.out.size))
  clear hB4 HB2
  have H4 := Aside0.mk (H.out.move HB4.out.size (fun k _ hk => HB4.out.block k hk))
  have hgl := H.out.lt
  have hn1 : ¬ (w.heap.size = g) := by omega
  have hn2 : ¬ (g = w.heap.size) := by omega
  clear H hgl
  generalize w.heap.size = B at c0 c1 c2 hn1 hn2 ⊢
  have k3 := cell_of_heap H4.out.cells 3 (.string r.q.f0) rfl
  have k4 := cell_of_heap H4.out.cells 4 (.string r.q.f1) rfl
  have k10 := cell_of_heap H4.out.cells 10 (.bool r.old) rfl
  have f3 := frozen_of_heap H4.out.cells 3
  have f4 := frozen_of_heap H4.out.cells 4
  have f10 := frozen_of_heap H4.out.cells 10
  go_wp2_with fail
  go_region
  have fin : ∀ (W : World) (o : Bool), Chg g 56 w4 W (cellsRd g { r with q := { r.q with f0 := a, f1 := b }, old := o } vw vh vb vt) → Frame (fun k => k = g) w W ∧ RdAt W S g { r with q := { r.q with f0 := a, f1 := b }, old := o } vw vh vb vt T := fun W o hc =>
    ⟨(Frame.of_below HB4.out).trans hc.frame, H4.out.turn hc.heap hc.frame.size hc.same H4.out.wait (fun _ hk => hk) rfl rfl rfl⟩
  have FIN := Aside0.mk fin
  clear fin
  cases d10 : is10 d
  · have D10 := Aside0.mk d10
    simp only [is10] at d10
    cases d11 : is11 d
    · have D11 := Aside0.mk d11
      simp only [is11] at d11
      go_wp2_with fail
      go_ret
      refine ⟨by rw [D10.out, D11.out]; rfl, FIN.out _ (is10 d || r.old) ?_⟩
      apply Chg.cast
      · repeat (first | (with_reducible apply Chg.drew) | (with_reducible apply Chg.put) | exact Chg.start H4.out.cells)
      · simp [cellsRd, D10.out]
    · have D11 := Aside0.mk d11
      simp only [is11] at d11
      go_wp2_with fail
      go_ret
      refine ⟨by rw [D10.out, D11.out]; rfl, FIN.out _ (is10 d || r.old) ?_⟩
      apply Chg.cast
      · repeat (first | (with_reducible apply Chg.drew) | (with_reducible apply Chg.put) | exact Chg.start H4.out.cells)
      · simp [cellsRd, D10.out]
  · have D10 := Aside0.mk d10
    simp only [is10] at d10
    go_wp2_with fail
    go_ret
    refine ⟨by rw [D10.out]; rfl, FIN.out _ (is10 d || r.old) ?_⟩
    apply Chg.cast
    · repeat (first | (with_reducible apply Chg.drew) | (with_reducible apply Chg.put) | exact Chg.start H4.out.cells)
    · simp [cellsRd, D10.out]
end Go.Proofs.YtafhkpnmolfjeaaGreatDoor.Rq

/-! ## Rq2: Walks of the reader's methods that write the list of what was told. -/
set_option linter.unusedVariables false
set_option linter.unusedSimpArgs false
namespace Go.Proofs.YtafhkpnmolfjeaaGreatDoor.Rq
open Go.RowKit Go.Proofs.YtafhkpnmolfjeaaGreatDoorW.PrintWords Go.Proofs.YtafhkpnmolfjeaaGreatDoor.PRequestBack

theorem R_slice {α : Type} {d : Kd α} {e : Nat} {w : World} {base : Nat} {ok : Nat → Prop} {v : Value} {xs : List α} (h : d.R e w base ok v xs) : ∃ A c, v = .slice A xs.length c := by
  obtain ⟨_, inner, ho, _⟩ := h
  exact own_slice ho
/-- What gives up leaves. -/
def Rd.over (r : Rd) (l : List S53) : Rd := { r with wait := [], used := 0, nx := .over, told := r.told ++ l }

set_option maxRecDepth 100000 in
set_option maxHeartbeats 400000 in
theorem stop_zero {w : World} {S : Nat → Prop} {g : Nat} {r : Rd} {vw vh vb vt : Value} {T : Nat → Prop} (h : RdAt w S g r vw vh vb vt T) :
    Calls Tryz.prog 104 #[.pointer (some ⟨g, 0, none⟩), .int .i64 0] w fun e w' => e = .returned (.bool false) ∧ Frame (fun k => k = g) w w' ∧ RdAt w' S g (r.over []) (.slice none 0 0) vh vb vt T := by
  obtain ⟨Aw, cw, rfl, hw0⟩ := h.wait.sl
  have k0 := cell_of_heap h.cells 0 (.slice Aw r.wait.length cw) rfl
  have k1 := cell_of_heap h.cells 1 (.int .i64 r.used) rfl
  have k2 := cell_of_heap h.cells 2 (r.nx.val g) rfl
  have f0 := frozen_of_heap h.cells 0
  have f1 := frozen_of_heap h.cells 1
  have f2 := frozen_of_heap h.cells 2
  have H := Aside0.mk h
  clear h hw0
  go_enter Tryz.func104, Tryz.ntmps104
  go_wp2
  go_ret
  refine ⟨rfl, (((Frame.refl _ _).put 0 _).put 1 _).put 2 _, ?_⟩
  refine H.out.turn ?_ (by simp) (fun k hk _ => by rw [Below.heap_setCell _ _ _ _ hk, Below.heap_setCell _ _ _ _ hk, Below.heap_setCell _ _ _ _ hk]) (Cut5.nil _) (fun k hk => by simp [Value.ownBlock] at hk) rfl rfl (by simp [Rd.over])
  rw [heap_set (heap_set (heap_set H.out.cells 0 _) 1 _) 2 _]
  simp [cellsRd, Rd.over, Nx.val]

theorem info53 : (Tryz.prog.info? 53).map (fun i => (i.zero, i.size, i.bytes)) = some (some (.agg #[.string ⟨#[]⟩, .string ⟨#[]⟩, .slice none 0 0, .string ⟨#[]⟩, .bool false, .int .i64 0]), 6, 88) := by kernel_rfl
set_option maxRecDepth 100000 in
set_option maxHeartbeats 400000 in
theorem stop_some {w : World} {S : Nat → Prop} {g : Nat} {r : Rd} {vw vh vb vt : Value} {T : Nat → Prop} (h : RdAt w S g r vw vh vb vt T) (hU : ∀ k, w.heap.size ≤ k → S k) (st : Int) (hst : (st != 0) = true) (hl : r.told.length < 1000000000000) :
    Calls Tryz.prog 104 #[.pointer (some ⟨g, 0, none⟩), .int .i64 st] w fun e w' => e = .returned (.bool false) ∧ Frame S w w' ∧ ∃ vt1 T1, RdAt w' S g (r.over [⟨z24, st⟩]) (.slice none 0 0) vh vb vt1 T1 := by
  obtain ⟨Aw, cw, rfl, hw0⟩ := h.wait.sl
  obtain ⟨At, ct, rfl⟩ := R_slice h.told
  have k0 := cell_of_heap h.cells 0 (.slice Aw r.wait.length cw) rfl
  have k1 := cell_of_heap h.cells 1 (.int .i64 r.used) rfl
  have k2 := cell_of_heap h.cells 2 (r.nx.val g) rfl
  have k13 := cell_of_heap h.cells 13 (.slice At r.told.length ct) rfl
  have f0 := frozen_of_heap h.cells 0
  have f1 := frozen_of_heap h.cells 1
  have f2 := frozen_of_heap h.cells 2
  have f13 := frozen_of_heap h.cells 13
  have H := Aside0.mk h
  have HU := Aside0.mk hU
  clear h hw0 hU
  go_enter Tryz.func104, Tryz.ntmps104
  go_wp2_with (at_builtin; go_must (refine Kd.R_append k53 (w0 := w) 0 rfl (.tmp 11) (.tmp 14) 44 53 _ 88 rfl Tryz.underlying44 info53 rfl (by decide) (by decide) (.slice At r.told.length ct) r.told ⟨z24, st⟩ [.string ⟨#[]⟩, .string ⟨#[]⟩, .slice none 0 0, .string ⟨#[]⟩, .bool false, .int .i64 st] (fun k => T k ∨ w.heap.size ≤ k) (fun _ => False) rfl rfl (k53_mkM _ _ _ ⟨z24, st⟩ (Kd.R_nil _ _ _ _ _)) (fun _ h => h.elim) (fun k hk => Or.inr hk) ?c1 ?c2 (Nat.zero_le _) ?c3 ?_))
  case c1 => exact Kd.R_mono H.out.told (fun _ hk => .inl hk)
  case c2 => exact Below.refl 0 w
  case c3 => omega
  intro v1 w1 hR hB hg hat
  have hgw : w1.heap[g]? = some (.cells (cellsRd g r (.slice Aw r.wait.length cw) vh vb (.slice At r.told.length ct)) 56 (0, 0)) := by
    refine (hg.block g H.out.lt (fun e => ?_)).trans H.out.cells
    obtain ⟨c, hc⟩ := R_typed H.out.told g e.symm
    exact typed_ne hc H.out.cells (by decide) rfl
  obtain ⟨A1, c1, hv1⟩ := R_slice hR
  rw [show (r.told ++ [(⟨z24, st⟩ : S53)]).length = r.told.length + 1 from by simp] at hv1
  subst hv1
  replace k0 := cell_of_heap hgw 0 (.slice Aw r.wait.length cw) rfl
  replace k1 := cell_of_heap hgw 1 (.int .i64 r.used) rfl
  replace k2 := cell_of_heap hgw 2 (r.nx.val g) rfl
  replace k13 := cell_of_heap hgw 13 (.slice At r.told.length ct) rfl
  replace f0 := frozen_of_heap hgw 0
  replace f1 := frozen_of_heap hgw 1
  replace f2 := frozen_of_heap hgw 2
  replace f13 := frozen_of_heap hgw 13
  have Z := Aside0.mk (And.intro hR (And.intro hg hgw))
  clear hR hB hg hgw hat
  go_wp2
  go_ret
  obtain ⟨hR, hg, hgw⟩ := Z.out
  have hfr : Frame S w w1 := Frame.of_grown hg (fun k e => by
    obtain ⟨h0, _⟩ := H.out.told
    exact (H.out.st k (h0 k e)).1)
  refine ⟨rfl, (((hfr.putIn H.out.own 13 _).putIn H.out.own 0 _).putIn H.out.own 1 _).putIn H.out.own 2 _, .slice A1 (r.told.length + 1) c1, (fun k => (T k ∨ w.heap.size ≤ k) ∧ k < w1.heap.size), ?_⟩
  refine RdAt.make (r := r.over [⟨z24, st⟩]) (T := fun k => T k ∨ w.heap.size ≤ k) hgw (same_put (same_put (same_put (same_put (same_refl g w1) 13 _) 0 _) 1 _) 2 _) (by simp) ?_ H.out.own (Cut5.nil _) (own_other H.out.body hg ?_) (U := fun k => vh.ownBlock = some k) (Kd.R_grown H.out.heads hg ?_) hR (fun k hk => by simp [Value.ownBlock] at hk) H.out.sb ?_ ?_
  · rw [heap_set (heap_set (heap_set (heap_set hgw 13 _) 0 _) 1 _) 2 _]
    simp [cellsRd, Rd.over, Nx.val]
  · obtain ⟨_, inner, ho, _⟩ := H.out.told
    exact own_type_ne H.out.body ho (by decide)
  · intro k hk e
    obtain ⟨c, hc⟩ := R_typed H.out.told k e.symm
    obtain ⟨c', hc'⟩ := R_typed H.out.heads k hk
    exact typed_ne hc hc' (by decide) rfl
  · intro k hk _
    exact ⟨(H.out.sh k hk).1, fun hc => hc.elim (H.out.sh k hk).2 (fun hle => by have := R_lt H.out.heads k hk; omega)⟩
  · intro k hk _
    exact hk.elim (fun h => (H.out.st k h).1) (HU.out k)
end Go.Proofs.YtafhkpnmolfjeaaGreatDoor.Rq

/-! ## Rq3: Walks of the reader's begin, New, done; slices.Clone. -/
set_option linter.unusedVariables false
set_option linter.unusedSimpArgs false
namespace Go.Proofs.YtafhkpnmolfjeaaGreatDoor.Rq
open Go.RowKit Go.Proofs.YtafhkpnmolfjeaaGreatDoorW.PrintWords Go.Proofs.YtafhkpnmolfjeaaGreatDoor.PRequestBack

def Rd.begun (r : Rd) : Rd := { r with used := 0, nx := .head, q := z24, head := 0, lines := 0, old := false, body := [] }
def cs14 (a0 a1 a2 a3 a4 a5 a6 a7 a8 a9 a10 a11 a12 a13 : Value) : Array Value := #[a0, a1, a2, a3, a4, a5, a6, a7, a8, a9, a10, a11, a12, a13]

set_option maxRecDepth 100000 in
set_option maxHeartbeats 400000 in
/-- begin, on whatever reader's cells: the wait and told cells stay, the size too. -/
theorem begin_cells {w : World} {g : Nat} {a0 a1 a2 a3 a4 a5 a6 a7 a8 a9 a10 a11 a12 a13 : Value} (h : w.heap[g]? = some (.cells (cs14 a0 a1 a2 a3 a4 a5 a6 a7 a8 a9 a10 a11 a12 a13) 56 (0, 0))) :
    Calls Tryz.prog 43 #[.pointer (some ⟨g, 0, none⟩)] w fun e w' => e = .returned (.tuple #[]) ∧
      Chg g 56 w w' (cs14 a0 (.int .i64 0) (Nx.head.val g) (.string ⟨#[]⟩) (.string ⟨#[]⟩) (.slice none 0 0) (.string ⟨#[]⟩) (.bool false) (.int .i64 0) (.int .i64 0) (.bool false) (.slice none 0 0) a12 a13) := by
  have k1 := cell_of_heap h 1 a1 rfl
  have k2 := cell_of_heap h 2 a2 rfl
  have k3 := cell_of_heap h 3 a3 rfl
  have k4 := cell_of_heap h 4 a4 rfl
  have k5 := cell_of_heap h 5 a5 rfl
  have k6 := cell_of_heap h 6 a6 rfl
  have k7 := cell_of_heap h 7 a7 rfl
  have k8 := cell_of_heap h 8 a8 rfl
  have k9 := cell_of_heap h 9 a9 rfl
  have k10 := cell_of_heap h 10 a10 rfl
  have k11 := cell_of_heap h 11 a11 rfl
  have f1 := frozen_of_heap h 1
  have f2 := frozen_of_heap h 2
  have f3 := frozen_of_heap h 3
  have f4 := frozen_of_heap h 4
  have f5 := frozen_of_heap h 5
  have f6 := frozen_of_heap h 6
  have f7 := frozen_of_heap h 7
  have f8 := frozen_of_heap h 8
  have f9 := frozen_of_heap h 9
  have f10 := frozen_of_heap h 10
  have f11 := frozen_of_heap h 11
  have H := Aside0.mk h
  clear h
  go_enter Tryz.func43, Tryz.ntmps43
  go_wp2
  go_end0
  refine ⟨rfl, ?_⟩
  apply Chg.cast
  · repeat (first | (with_reducible apply Chg.put) | exact Chg.start H.out)
  · simp [cs14, Nx.val]

def Rd.new : Rd := { wait := [], used := 0, nx := .head, q := z24, head := 0, lines := 0, old := false, body := [], size := 0, told := [] }
theorem own5_nil (w : World) (l : List UInt8) (h : l = []) : w.ownsRow 0 5 1 (.slice none 0 0) l.length (nums .u8 (ints l)) := by
  subst h; exact own_nil w 0 5 1
theorem begin_calls {w : World} {S : Nat → Prop} {g : Nat} {r : Rd} {vw vh vb vt : Value} {T : Nat → Prop} (h : RdAt w S g r vw vh vb vt T) :
    Calls Tryz.prog 43 #[.pointer (some ⟨g, 0, none⟩)] w fun e w' => e = .returned (.tuple #[]) ∧ Frame (fun k => k = g) w w' ∧ RdAt w' S g r.begun vw (.slice none 0 0) (.slice none 0 0) vt (fun k => T k ∧ k < w.heap.size) := by
  refine (begin_cells h.cells).mono ?_
  rintro e w' ⟨rfl, hc⟩
  refine ⟨rfl, hc.frame, ?_⟩
  exact RdAt.make h.cells hc.same hc.frame.size hc.heap h.own h.wait (own5_nil w _ rfl) (U := fun _ => True) (Kd.R_nil _ _ _ _ _) h.told (fun k hk => ⟨(h.sw k hk).1, (h.sw k hk).2.1, by simp [Value.ownBlock]⟩) (fun k hk => by simp [Value.ownBlock] at hk) (fun k hk => by simp [Value.ownBlock] at hk) (fun k hk _ => (h.st k hk).1)

set_option maxRecDepth 100000 in
set_option maxHeartbeats 400000 in
theorem new_calls {w : World} {S : Nat → Prop} (hU : ∀ k, w.heap.size ≤ k → S k) :
    Calls Tryz.prog 21 #[] w fun e w' => e = .returned (.pointer (some ⟨w.heap.size, 0, none⟩)) ∧ Below w.heap.size w w' ∧ RdAt w' S w.heap.size Rd.new (.slice none 0 0) (.slice none 0 0) (.slice none 0 0) (.slice none 0 0) (fun _ => False) := by
  go_enter Tryz.func21, Tryz.ntmps21
  go_wp2_with fail
  have hb := heap_alloc_new w (.cells (cs14 (.slice none 0 0) (.int .i64 0) .nilFunc (.string ⟨#[]⟩) (.string ⟨#[]⟩) (.slice none 0 0) (.string ⟨#[]⟩) (.bool false) (.int .i64 0) (.int .i64 0) (.bool false) (.slice none 0 0) (.int .i64 0) (.slice none 0 0)) 56)
  refine (begin_cells hb).mono ?_
  rintro e w1 ⟨rfl, hc⟩
  have Z := Aside0.mk (And.intro hb hc)
  clear hb hc
  go_wp2
  go_ret
  obtain ⟨hb, hc⟩ := Z.out
  refine ⟨rfl, ((Below.refl w.heap.size w).alloc (Nat.le_refl _) _).trans ⟨hc.frame.os, hc.frame.tape, hc.frame.output, hc.frame.size, fun k hk => hc.same k (by omega) (by simp; omega)⟩, ?_⟩
  have hr := RdAt.make (r := Rd.new) (S := S) (T := fun _ => False) hb hc.same hc.frame.size hc.heap (hU _ (Nat.le_refl _)) (Cut5.nil _) (own5_nil _ _ rfl) (U := fun _ => True) (Kd.R_nil _ _ _ _ _) (Kd.R_nil _ _ _ _ _) (fun k hk => by simp [Value.ownBlock] at hk) (fun k hk => by simp [Value.ownBlock] at hk) (fun k hk => by simp [Value.ownBlock] at hk) (fun k hk _ => hk.elim)
  have he : (fun k => False ∧ k < (w.alloc (.cells (cs14 (.slice none 0 0) (.int .i64 0) .nilFunc (.string ⟨#[]⟩) (.string ⟨#[]⟩) (.slice none 0 0) (.string ⟨#[]⟩) (.bool false) (.int .i64 0) (.int .i64 0) (.bool false) (.slice none 0 0) (.int .i64 0) (.slice none 0 0)) 56)).heap.size) = (fun _ : Nat => False) := by funext k; simp
  rw [he] at hr
  exact hr
end Go.Proofs.YtafhkpnmolfjeaaGreatDoor.Rq

/-! ## Rq4: Walk of the reader's done. -/
set_option linter.unusedVariables false
set_option linter.unusedSimpArgs false
namespace Go.Proofs.YtafhkpnmolfjeaaGreatDoor.Rq
open Go.RowKit Go.Proofs.YtafhkpnmolfjeaaGreatDoorW.PrintWords Go.Proofs.YtafhkpnmolfjeaaGreatDoor.PRequestBack

theorem grown_told {W w1 : World} {g : Nat} {cs : Array Value} {T : Nat → Prop} {vt : Value} {l : List S53} (hc : W.heap[g]? = some (.cells cs 56 (0, 0))) (hR : k53.R 53 W 0 T vt l) (hg : W.grownBy w1 vt.ownBlock) : w1.heap[g]? = some (.cells cs 56 (0, 0)) := by
  refine (hg.block g (Array.getElem?_eq_some_iff.1 hc).1 (fun e => ?_)).trans hc
  obtain ⟨c, h⟩ := R_typed hR g e.symm
  exact typed_ne h hc (by decide) rfl
def Rd.whole (r : Rd) : S24 := { r.q with f3 := str r.body }
/-- The reader in block g is over; what it told lies in vt. -/
structure OvAt (w : World) (S : Nat → Prop) (g : Nat) (vt : Value) (T : Nat → Prop) (l : List S53) : Prop where
  cells : ∃ cs, w.heap[g]? = some (.cells cs 56 (0, 0)) ∧ cs[2]? = some .nilFunc ∧ cs[13]? = some vt
  own : S g
  told : k53.R 53 w 0 T vt l
  st : ∀ k, T k → S k ∧ k < w.heap.size
theorem OvAt.make {w1 w2 : World} {S T : Nat → Prop} {g : Nat} {vt : Value} {l : List S53} {cs cs2 : Array Value} (hg1 : w1.heap[g]? = some (.cells cs 56 (0, 0))) (hm : ∀ k, k ≠ g → k < w1.heap.size → w2.heap[k]? = w1.heap[k]?)
    (hc : w2.heap[g]? = some (.cells cs2 56 (0, 0))) (h2 : cs2[2]? = some .nilFunc) (h13 : cs2[13]? = some vt) (own : S g) (told : k53.R 53 w1 0 T vt l) (st : ∀ k, T k → k < w1.heap.size → S k) : OvAt w2 S g vt (fun k => T k ∧ k < w1.heap.size) l := by
  have hR : k53.R 53 w2 0 (fun k => T k ∧ k < w1.heap.size) vt l := by
    refine Kd.R_mono (Kd.R_move (Kd.R_bound told) fun k hk => hm k (fun e => ?_) hk.2.2.1) (fun _ hk => ⟨hk.1, hk.2.2.1⟩)
    obtain ⟨_, _, _, q, hq, c, hc⟩ := hk
    rw [e, hg1] at hc; injection hc with hc; injection hc with _ ht
    have hE : k53.E = [38] := rfl
    rw [hE, ← ht] at hq; exact absurd hq (by decide)
  have hR' : k53.R 53 w2 0 (fun k => (T k ∧ k < w1.heap.size) ∧ k < w2.heap.size) vt l := Kd.R_mono (Kd.R_bound hR) (fun _ hk => ⟨hk.1, hk.2.2.1⟩)
  by_cases hs : w1.heap.size ≤ w2.heap.size
  · exact ⟨⟨cs2, hc, h2, h13⟩, own, hR, fun k hk => ⟨st k hk.1 hk.2, by omega⟩⟩
  · exfalso
    have hl : g < w2.heap.size := (Array.getElem?_eq_some_iff.1 hc).1
    have := hm (w2.heap.size) (by omega) (by omega)
    rw [Array.getElem?_eq_none (by omega)] at this
    have h3 : w2.heap.size < w1.heap.size := by omega
    rw [Array.getElem?_eq_getElem h3] at this
    cases this
theorem OvAt.of_rd {w : World} {S : Nat → Prop} {g : Nat} {r : Rd} {vw vh vb vt : Value} {T : Nat → Prop} (h : RdAt w S g r vw vh vb vt T) (hx : r.nx = .over) : OvAt w S g vt T r.told :=
  ⟨⟨_, h.cells, by simp [cellsRd, hx, Nx.val], by simp [cellsRd]⟩, h.own, h.told, h.st⟩
set_option maxRecDepth 100000 in
set_option maxHeartbeats 400000 in
theorem stop0_cells {w : World} {g : Nat} {a0 a1 a2 a3 a4 a5 a6 a7 a8 a9 a10 a11 a12 a13 : Value} (h : w.heap[g]? = some (.cells (cs14 a0 a1 a2 a3 a4 a5 a6 a7 a8 a9 a10 a11 a12 a13) 56 (0, 0))) :
    Calls Tryz.prog 104 #[.pointer (some ⟨g, 0, none⟩), .int .i64 0] w fun e w' => e = .returned (.bool false) ∧
      Chg g 56 w w' (cs14 (.slice none 0 0) (.int .i64 0) .nilFunc a3 a4 a5 a6 a7 a8 a9 a10 a11 a12 a13) := by
  have k0 := cell_of_heap h 0 a0 rfl
  have k1 := cell_of_heap h 1 a1 rfl
  have k2 := cell_of_heap h 2 a2 rfl
  have f0 := frozen_of_heap h 0
  have f1 := frozen_of_heap h 1
  have f2 := frozen_of_heap h 2
  have H := Aside0.mk h
  clear h
  go_enter Tryz.func104, Tryz.ntmps104
  go_wp2
  go_ret
  refine ⟨rfl, ?_⟩
  apply Chg.cast
  · repeat (first | (with_reducible apply Chg.put) | exact Chg.start H.out)
  · simp [cs14]

set_option maxRecDepth 100000 in
set_option maxHeartbeats 1000000 in
theorem done_keep {w : World} {S : Nat → Prop} {g : Nat} {r : Rd} {vw vh vb vt : Value} {T : Nat → Prop} (h : RdAt w S g r vw vh vb vt T) (hU : ∀ k, w.heap.size ≤ k → S k) (hl : r.told.length < 1000000000000) (hk : r.q.f4 = true) :
    Calls Tryz.prog 138 #[.pointer (some ⟨g, 0, none⟩)] w fun e w' => e = .returned (.bool true) ∧ Frame S w w' ∧ ∃ vt1 T1, RdAt w' S g { r.begun with told := r.told ++ [⟨r.whole, 0⟩] } vw (.slice none 0 0) (.slice none 0 0) vt1 T1 := by
  obtain ⟨Ab, cb, rfl⟩ := own_slice h.body
  obtain ⟨Ah, ch, rfl⟩ := R_slice h.heads
  obtain ⟨At, ct, rfl⟩ := R_slice h.told
  have cv := own_string (P := Tryz.prog) (e' := 5) (dst := 9) Tryz.underlying40 Tryz.underlying5 Tryz.underlying9 h.body
  have k3 := cell_of_heap h.cells 3 (.string r.q.f0) rfl
  have k4 := cell_of_heap h.cells 4 (.string r.q.f1) rfl
  have k5 := cell_of_heap h.cells 5 (.slice Ah r.q.f2.length ch) rfl
  have k6 := cell_of_heap h.cells 6 (.string r.q.f3) rfl
  have k7 := cell_of_heap h.cells 7 (.bool r.q.f4) rfl
  have k11 := cell_of_heap h.cells 11 (.slice Ab r.body.length cb) rfl
  have k13 := cell_of_heap h.cells 13 (.slice At r.told.length ct) rfl
  have f3 := frozen_of_heap h.cells 3
  have f4 := frozen_of_heap h.cells 4
  have f5 := frozen_of_heap h.cells 5
  have f6 := frozen_of_heap h.cells 6
  have f7 := frozen_of_heap h.cells 7
  have f13 := frozen_of_heap h.cells 13
  rw [strOfNums_ints] at cv
  have H := Aside0.mk h
  have HU := Aside0.mk hU
  have HK := Aside0.mk hk
  clear h hU hk
  go_enter Tryz.func138, Tryz.ntmps138
  go_wp2_with fail
  have hc := (Chg.start H.out.cells).put 6 (.string (str r.body))
  have hR0 : k53.R 53 (w.setCell ⟨g, 6, none⟩ (.string (str r.body))) 0 T (.slice At r.told.length ct) r.told :=
    Kd.R_mono (Kd.R_move (Kd.R_bound H.out.told) fun k hk => hc.same k (fun e => by
      obtain ⟨_, _, _, q, hq, c, hh⟩ := hk
      rw [e, H.out.cells] at hh; injection hh with hh; injection hh with _ ht
      have hE : k53.E = [38] := rfl
      rw [hE, ← ht] at hq; exact absurd hq (by decide)) hk.2.2.1) (fun _ hk => hk.1)
  have hH0 : k38.R 38 (w.setCell ⟨g, 6, none⟩ (.string (str r.body))) 0 (fun k => (Value.slice Ah r.q.f2.length ch).ownBlock = some k) (.slice Ah r.q.f2.length ch) r.q.f2 :=
    Kd.R_mono (Kd.R_move (Kd.R_bound H.out.heads) fun k hk => hc.same k (fun e => by
      obtain ⟨_, _, _, q, hq, c, hh⟩ := hk
      rw [e, H.out.cells] at hh; injection hh with hh; injection hh with _ ht
      have hE : k38.E = [] := rfl
      rw [hE, ← ht] at hq; exact absurd hq (by decide)) hk.2.2.1) (fun _ hk => hk.1)
  have hsz : (w.setCell ⟨g, 6, none⟩ (.string (str r.body))).heap.size = w.heap.size := by simp
  revert hc hR0 hH0 hsz
  generalize w.setCell ⟨g, 6, none⟩ (.string (str r.body)) = W1
  intro hc hR0 hH0 hsz
  replace k3 := cell_of_heap hc.heap 3 (.string r.q.f0) rfl
  replace k4 := cell_of_heap hc.heap 4 (.string r.q.f1) rfl
  replace k5 := cell_of_heap hc.heap 5 (.slice Ah r.q.f2.length ch) rfl
  replace k6 := cell_of_heap hc.heap 6 (.string (str r.body)) rfl
  replace k7 := cell_of_heap hc.heap 7 (.bool r.q.f4) rfl
  replace k13 := cell_of_heap hc.heap 13 (.slice At r.told.length ct) rfl
  replace f13 := frozen_of_heap hc.heap 13
  clear f3 f4 f5 f6 f7 k11 cv
  have hM : k53.M W1 0 (fun k => (Value.slice Ah r.q.f2.length ch).ownBlock = some k) ⟨r.whole, 0⟩ [.string r.q.f0, .string r.q.f1, .slice Ah r.q.f2.length ch, .string (str r.body), .bool r.q.f4, .int .i64 0] := k53_mkM _ _ _ ⟨r.whole, 0⟩ hH0
  have hokp : ∀ k, (Value.slice Ah r.q.f2.length ch).ownBlock = some k → (T k ∨ (Value.slice Ah r.q.f2.length ch).ownBlock = some k ∨ w.heap.size ≤ k) ∧ some k ≠ (Value.slice At r.told.length ct).ownBlock := by
    intro k hk
    refine ⟨.inr (.inl hk), fun e => ?_⟩
    obtain ⟨c, h1⟩ := R_typed H.out.told k e.symm
    obtain ⟨c', h2⟩ := R_typed H.out.heads k hk
    exact typed_ne h1 h2 (by decide) rfl
  have Z := Aside0.mk (And.intro hc (And.intro hR0 (And.intro hM (And.intro hokp hsz))))
  clear hc hR0 hH0 hM hokp
  have hlt : g < w.heap.size := H.out.lt
  go_region_law (refine Kd.R_append_step k53 (w0 := W1) 0 rfl (.tmp 16) (.tmp 22) 44 53 _ 88 rfl Tryz.underlying44 info53 rfl (by decide) (by decide) (.slice At r.told.length ct) r.told ⟨r.whole, 0⟩ [.string r.q.f0, .string r.q.f1, .slice Ah r.q.f2.length ch, .string (str r.body), .bool r.q.f4, .int .i64 0] (fun k => T k ∨ (Value.slice Ah r.q.f2.length ch).ownBlock = some k ∨ w.heap.size ≤ k) (fun k => (Value.slice Ah r.q.f2.length ch).ownBlock = some k) (by simp [Act.eval, Act.put]) (by simp [Act.eval, Act.put]) (Kd.M_below Z.out.2.2.1 (below_drew (Below.refl _ _))) Z.out.2.2.2.1 (fun k hk => Or.inr (Or.inr (by simp at hk; omega))) (Kd.R_mono (Kd.R_below Z.out.2.1 (below_drew (Below.refl _ _))) (fun _ hk => Or.inl hk)) (below_drew (Below.refl _ _)) (Nat.zero_le _) (by omega) ?_; intro v1 w1 hR hB hg hat; obtain ⟨A1, c1, hv⟩ := R_slice hR; (rw [show (r.told ++ [(⟨r.whole, 0⟩ : S53)]).length = r.told.length + 1 from by simp] at hv); subst hv; have hgw := grown_told (W := W1.drew) Z.out.1.heap (Kd.R_below Z.out.2.1 (below_drew (Below.refl _ _))) hg; have q13 := cell_of_heap hgw 13 (.slice At r.told.length ct) rfl; have p13 := frozen_of_heap hgw 13; have Y := Aside0.mk (And.intro hR (And.intro hg hgw)); clear hR hB hg hat hgw)
  all_goals
    have hc2 := ((Chg.start Y.out.2.2).put 13 (.slice A1 (r.told.length + 1) c1)).cast (cs' := cs14 vw (.int .i64 r.used) (r.nx.val g) (.string r.q.f0) (.string r.q.f1) (.slice Ah r.q.f2.length ch) (.string (str r.body)) (.bool true) (.int .i64 r.head) (.int .i64 r.lines) (.bool r.old) (.slice Ab r.body.length cb) (.int .i64 r.size) (.slice A1 (r.told.length + 1) c1)) (by simp [cellsRd, cs14, HK.out])
    have q7 := cell_of_heap hc2.heap 7 (.bool true) rfl
    clear k3 k4 k5 k6 k7 k13 f13 q13 p13
    revert hc2 q7
    generalize w1.setCell ⟨g, 13, none⟩ (.slice A1 (r.told.length + 1) c1) = W2
    intro hc2 q7
    have X := Aside0.mk hc2
    clear hc2
    go_wp2_with fail
    refine (begin_cells X.out.heap).mono ?_
    rintro e w3 ⟨rfl, hc3⟩
    have V := Aside0.mk hc3
    clear hc3
    go_wp2
    go_ret
    refine ⟨rfl, ?_⟩
    obtain ⟨hR, hg, hgw⟩ := Y.out
    have hsame : ∀ k, k ≠ g → k < w1.heap.size → w3.heap[k]? = w1.heap[k]? := fun k hk hl => (V.out.same k hk (Nat.lt_of_lt_of_le hl X.out.frame.size)).trans (X.out.same k hk hl)
    have hrow : ∀ (k : Nat) (c : Array Value) (t : TypeId), t ≠ 56 → t ≠ 53 → w.heap[k]? = some (.cells c t (0, 0)) → w1.heap[k]? = w.heap[k]? := by
      intro k c t h56 h53 hk
      have h1 := Z.out.1.same k (typed_ne hk H.out.cells h56) (Array.getElem?_eq_some_iff.1 hk).1
      refine (hg.block k (by show k < W1.heap.size; have := (Array.getElem?_eq_some_iff.1 hk).1; omega) (fun e => ?_)).trans h1
      obtain ⟨c', h'⟩ := R_typed H.out.told k e.symm
      exact typed_ne h' hk (Ne.symm h53) rfl
    refine ⟨?_, .slice A1 (r.told.length + 1) c1, (fun k => (T k ∨ (Value.slice Ah r.q.f2.length ch).ownBlock = some k ∨ w.heap.size ≤ k) ∧ k < w1.heap.size), ?_⟩
    · refine ((((Frame.of_below (S := S) (Below.refl _ w)).trans (Z.out.1.frame.mono (fun k _ hk => hk ▸ H.out.own))).trans ((Frame.refl S W1).drew.trans (Frame.of_grown hg (fun k e => (H.out.st k (H.out.told.1 k e)).1)))).trans (X.out.frame.mono (fun k _ hk => hk ▸ H.out.own))).trans (V.out.frame.mono (fun k _ hk => hk ▸ H.out.own))
    · refine RdAt.make (r := { r.begun with told := r.told ++ [⟨r.whole, 0⟩] }) (S := S) (T := fun k => T k ∨ (Value.slice Ah r.q.f2.length ch).ownBlock = some k ∨ w.heap.size ≤ k) hgw hsame (Nat.le_trans X.out.frame.size V.out.frame.size) V.out.heap H.out.own (H.out.wait.move (fun k c _ hk => hrow k c 5 (by decide) (by decide) hk)) (own5_nil _ _ rfl) (U := fun _ => True) (Kd.R_nil _ _ _ _ _) hR ?_ (fun k hk => by simp [Value.ownBlock] at hk) (fun k hk => by simp [Value.ownBlock] at hk) ?_
      · intro k hk
        have hl := (H.out.sw k hk).2.1
        have h2 := hg.size
        have h3 : W1.heap.size ≤ w1.heap.size := h2
        exact ⟨(H.out.sw k hk).1, by omega, by simp [Value.ownBlock]⟩
      · intro k hk _
        rcases hk with hk | hk | hk
        · exact (H.out.st k hk).1
        · exact (H.out.sh k hk).1
        · exact HU.out k hk
set_option maxRecDepth 100000 in
set_option maxHeartbeats 1000000 in
theorem done_over {w : World} {S : Nat → Prop} {g : Nat} {r : Rd} {vw vh vb vt : Value} {T : Nat → Prop} (h : RdAt w S g r vw vh vb vt T) (hU : ∀ k, w.heap.size ≤ k → S k) (hl : r.told.length < 1000000000000) (hk : r.q.f4 = false) :
    Calls Tryz.prog 138 #[.pointer (some ⟨g, 0, none⟩)] w fun e w' => e = .returned (.bool false) ∧ Frame S w w' ∧ ∃ vt1 T1, OvAt w' S g vt1 T1 (r.told ++ [⟨r.whole, 0⟩]) := by
  obtain ⟨Ab, cb, rfl⟩ := own_slice h.body
  obtain ⟨Ah, ch, rfl⟩ := R_slice h.heads
  obtain ⟨At, ct, rfl⟩ := R_slice h.told
  have cv := own_string (P := Tryz.prog) (e' := 5) (dst := 9) Tryz.underlying40 Tryz.underlying5 Tryz.underlying9 h.body
  have k3 := cell_of_heap h.cells 3 (.string r.q.f0) rfl
  have k4 := cell_of_heap h.cells 4 (.string r.q.f1) rfl
  have k5 := cell_of_heap h.cells 5 (.slice Ah r.q.f2.length ch) rfl
  have k6 := cell_of_heap h.cells 6 (.string r.q.f3) rfl
  have k7 := cell_of_heap h.cells 7 (.bool r.q.f4) rfl
  have k11 := cell_of_heap h.cells 11 (.slice Ab r.body.length cb) rfl
  have k13 := cell_of_heap h.cells 13 (.slice At r.told.length ct) rfl
  have f3 := frozen_of_heap h.cells 3
  have f4 := frozen_of_heap h.cells 4
  have f5 := frozen_of_heap h.cells 5
  have f6 := frozen_of_heap h.cells 6
  have f7 := frozen_of_heap h.cells 7
  have f13 := frozen_of_heap h.cells 13
  rw [strOfNums_ints] at cv
  have H := Aside0.mk h
  have HU := Aside0.mk hU
  have HK := Aside0.mk hk
  clear h hU hk
  go_enter Tryz.func138, Tryz.ntmps138
  go_wp2_with fail
  have hc := (Chg.start H.out.cells).put 6 (.string (str r.body))
  have hR0 : k53.R 53 (w.setCell ⟨g, 6, none⟩ (.string (str r.body))) 0 T (.slice At r.told.length ct) r.told :=
    Kd.R_mono (Kd.R_move (Kd.R_bound H.out.told) fun k hk => hc.same k (fun e => by
      obtain ⟨_, _, _, q, hq, c, hh⟩ := hk
      rw [e, H.out.cells] at hh; injection hh with hh; injection hh with _ ht
      have hE : k53.E = [38] := rfl
      rw [hE, ← ht] at hq; exact absurd hq (by decide)) hk.2.2.1) (fun _ hk => hk.1)
  have hH0 : k38.R 38 (w.setCell ⟨g, 6, none⟩ (.string (str r.body))) 0 (fun k => (Value.slice Ah r.q.f2.length ch).ownBlock = some k) (.slice Ah r.q.f2.length ch) r.q.f2 :=
    Kd.R_mono (Kd.R_move (Kd.R_bound H.out.heads) fun k hk => hc.same k (fun e => by
      obtain ⟨_, _, _, q, hq, c, hh⟩ := hk
      rw [e, H.out.cells] at hh; injection hh with hh; injection hh with _ ht
      have hE : k38.E = [] := rfl
      rw [hE, ← ht] at hq; exact absurd hq (by decide)) hk.2.2.1) (fun _ hk => hk.1)
  have hsz : (w.setCell ⟨g, 6, none⟩ (.string (str r.body))).heap.size = w.heap.size := by simp
  revert hc hR0 hH0 hsz
  generalize w.setCell ⟨g, 6, none⟩ (.string (str r.body)) = W1
  intro hc hR0 hH0 hsz
  replace k3 := cell_of_heap hc.heap 3 (.string r.q.f0) rfl
  replace k4 := cell_of_heap hc.heap 4 (.string r.q.f1) rfl
  replace k5 := cell_of_heap hc.heap 5 (.slice Ah r.q.f2.length ch) rfl
  replace k6 := cell_of_heap hc.heap 6 (.string (str r.body)) rfl
  replace k7 := cell_of_heap hc.heap 7 (.bool r.q.f4) rfl
  replace k13 := cell_of_heap hc.heap 13 (.slice At r.told.length ct) rfl
  replace f13 := frozen_of_heap hc.heap 13
  clear f3 f4 f5 f6 f7 k11 cv
  have hM : k53.M W1 0 (fun k => (Value.slice Ah r.q.f2.length ch).ownBlock = some k) ⟨r.whole, 0⟩ [.string r.q.f0, .string r.q.f1, .slice Ah r.q.f2.length ch, .string (str r.body), .bool r.q.f4, .int .i64 0] := k53_mkM _ _ _ ⟨r.whole, 0⟩ hH0
  have hokp : ∀ k, (Value.slice Ah r.q.f2.length ch).ownBlock = some k → (T k ∨ (Value.slice Ah r.q.f2.length ch).ownBlock = some k ∨ w.heap.size ≤ k) ∧ some k ≠ (Value.slice At r.told.length ct).ownBlock := by
    intro k hk
    refine ⟨.inr (.inl hk), fun e => ?_⟩
    obtain ⟨c, h1⟩ := R_typed H.out.told k e.symm
    obtain ⟨c', h2⟩ := R_typed H.out.heads k hk
    exact typed_ne h1 h2 (by decide) rfl
  have Z := Aside0.mk (And.intro hc (And.intro hR0 (And.intro hM (And.intro hokp hsz))))
  clear hc hR0 hH0 hM hokp
  have hlt : g < w.heap.size := H.out.lt
  go_region_law (refine Kd.R_append_step k53 (w0 := W1) 0 rfl (.tmp 16) (.tmp 22) 44 53 _ 88 rfl Tryz.underlying44 info53 rfl (by decide) (by decide) (.slice At r.told.length ct) r.told ⟨r.whole, 0⟩ [.string r.q.f0, .string r.q.f1, .slice Ah r.q.f2.length ch, .string (str r.body), .bool r.q.f4, .int .i64 0] (fun k => T k ∨ (Value.slice Ah r.q.f2.length ch).ownBlock = some k ∨ w.heap.size ≤ k) (fun k => (Value.slice Ah r.q.f2.length ch).ownBlock = some k) (by simp [Act.eval, Act.put]) (by simp [Act.eval, Act.put]) (Kd.M_below Z.out.2.2.1 (below_drew (Below.refl _ _))) Z.out.2.2.2.1 (fun k hk => Or.inr (Or.inr (by simp at hk; omega))) (Kd.R_mono (Kd.R_below Z.out.2.1 (below_drew (Below.refl _ _))) (fun _ hk => Or.inl hk)) (below_drew (Below.refl _ _)) (Nat.zero_le _) (by omega) ?_; intro v1 w1 hR hB hg hat; obtain ⟨A1, c1, hv⟩ := R_slice hR; (rw [show (r.told ++ [(⟨r.whole, 0⟩ : S53)]).length = r.told.length + 1 from by simp] at hv); subst hv; have hgw := grown_told (W := W1.drew) Z.out.1.heap (Kd.R_below Z.out.2.1 (below_drew (Below.refl _ _))) hg; have q13 := cell_of_heap hgw 13 (.slice At r.told.length ct) rfl; have p13 := frozen_of_heap hgw 13; have Y := Aside0.mk (And.intro hR (And.intro hg hgw)); clear hR hB hg hat hgw)
  all_goals
    have hc2 := ((Chg.start Y.out.2.2).put 13 (.slice A1 (r.told.length + 1) c1)).cast (cs' := cs14 vw (.int .i64 r.used) (r.nx.val g) (.string r.q.f0) (.string r.q.f1) (.slice Ah r.q.f2.length ch) (.string (str r.body)) (.bool false) (.int .i64 r.head) (.int .i64 r.lines) (.bool r.old) (.slice Ab r.body.length cb) (.int .i64 r.size) (.slice A1 (r.told.length + 1) c1)) (by simp [cellsRd, cs14, HK.out])
    have q7 := cell_of_heap hc2.heap 7 (.bool false) rfl
    clear k3 k4 k5 k6 k7 k13 f13 q13 p13
    revert hc2 q7
    generalize w1.setCell ⟨g, 13, none⟩ (.slice A1 (r.told.length + 1) c1) = W2
    intro hc2 q7
    have X := Aside0.mk hc2
    clear hc2
    go_wp2_with fail
    refine (stop0_cells X.out.heap).mono ?_
    rintro e w3 ⟨rfl, hc3⟩
    have V := Aside0.mk hc3
    clear hc3
    go_wp2
    go_ret
    refine ⟨rfl, ?_⟩
    obtain ⟨hR, hg, hgw⟩ := Y.out
    have hsame : ∀ k, k ≠ g → k < w1.heap.size → w3.heap[k]? = w1.heap[k]? := fun k hk hl => (V.out.same k hk (Nat.lt_of_lt_of_le hl X.out.frame.size)).trans (X.out.same k hk hl)
    have hrow : ∀ (k : Nat) (c : Array Value) (t : TypeId), t ≠ 56 → t ≠ 53 → w.heap[k]? = some (.cells c t (0, 0)) → w1.heap[k]? = w.heap[k]? := by
      intro k c t h56 h53 hk
      have h1 := Z.out.1.same k (typed_ne hk H.out.cells h56) (Array.getElem?_eq_some_iff.1 hk).1
      refine (hg.block k (by show k < W1.heap.size; have := (Array.getElem?_eq_some_iff.1 hk).1; omega) (fun e => ?_)).trans h1
      obtain ⟨c', h'⟩ := R_typed H.out.told k e.symm
      exact typed_ne h' hk (Ne.symm h53) rfl
    refine ⟨?_, .slice A1 (r.told.length + 1) c1, (fun k => (T k ∨ (Value.slice Ah r.q.f2.length ch).ownBlock = some k ∨ w.heap.size ≤ k) ∧ k < w1.heap.size), ?_⟩
    · refine ((((Frame.of_below (S := S) (Below.refl _ w)).trans (Z.out.1.frame.mono (fun k _ hk => hk ▸ H.out.own))).trans ((Frame.refl S W1).drew.trans (Frame.of_grown hg (fun k e => (H.out.st k (H.out.told.1 k e)).1)))).trans (X.out.frame.mono (fun k _ hk => hk ▸ H.out.own))).trans (V.out.frame.mono (fun k _ hk => hk ▸ H.out.own))
    · refine OvAt.make hgw hsame V.out.heap rfl rfl H.out.own hR ?_
      intro k hk _
      rcases hk with hk | hk | hk
      · exact (H.out.st k hk).1
      · exact (H.out.sh k hk).1
      · exact HU.out k hk
end Go.Proofs.YtafhkpnmolfjeaaGreatDoor.Rq

/-! ## RqA: Walk of the reader's all. -/
set_option linter.unusedVariables false
set_option linter.unusedSimpArgs false
namespace Go.Proofs.YtafhkpnmolfjeaaGreatDoor.Rq
open Go.RowKit Go.Proofs.YtafhkpnmolfjeaaGreatDoorW.PrintWords Go.Proofs.YtafhkpnmolfjeaaGreatDoor.PRequestBack

def vals (l : List S38) (name : ByteArray) : List ByteArray := (l.filter fun p => p.f0.toList == name.toList).map (·.f1)
theorem vals_snoc (l : List S38) (k : Nat) (name : ByteArray) (x : S38) (hx : l[k]? = some x) : vals (l.take (k + 1)) name = vals (l.take k) name ++ (if (x.f0.toList == name.toList) = true then [x.f1] else []) := by
  obtain ⟨hk, rfl⟩ := List.getElem?_eq_some_iff.1 hx
  unfold vals
  rw [List.take_succ_eq_append_getElem hk, List.filter_append, List.map_append]
  congr 1
  by_cases h : (l[k].f0.toList == name.toList) = true
  · rw [if_pos h]; simp [List.filter_cons, h]
  · rw [if_neg h]; simp [List.filter_cons, h]
theorem vals_len (l : List S38) (name : ByteArray) : (vals l name).length ≤ l.length := by
  unfold vals; rw [List.length_map]; exact List.length_filter_le _ _
theorem info9h : (Tryz.prog.info? 9).map (fun i => (i.zero, i.size, i.bytes)) = some (some (.string ⟨#[]⟩), 1, 16) := by kernel_rfl
set_option maxRecDepth 100000 in
set_option maxHeartbeats 800000 in
theorem R_slice' {α : Type} {d : Kd α} {e : Nat} {w : World} {base : Nat} {ok : Nat → Prop} {v : Value} {xs : List α} (h : d.R e w base ok v xs) : ∃ A c, v = .slice A xs.length c := by
  obtain ⟨_, inner, ho, _⟩ := h
  exact own_slice ho
set_option maxRecDepth 100000 in
set_option maxHeartbeats 800000 in
theorem all_calls {w : World} {S : Nat → Prop} {g : Nat} {r : Rd} {vw vh vb vt : Value} {T : Nat → Prop} (h : RdAt w S g r vw vh vb vt T) (name : ByteArray) (hl : r.q.f2.length < 1000000000) :
    Calls Tryz.prog 136 #[.pointer (some ⟨g, 0, none⟩), .string name] w fun e w' => ∃ v, e = .returned v ∧ Kd.R Kd.string 9 w' w.heap.size (fun _ => True) v (vals r.q.f2 name) ∧ Below w.heap.size w w' := by
  obtain ⟨Ah, ch, rfl, hle, hC⟩ := Kd.R_reads h.heads
  have k5 := cell_of_heap h.cells 5 (.slice Ah r.q.f2.length ch) rfl
  have HC := Aside0.mk hC
  clear h hC
  go_enter Tryz.func136, Tryz.ntmps136
  go_wp2_with fail
  go_loopw [5, 14] (fun v i wr => ∃ k : Nat, k ≤ r.q.f2.length ∧ i = .int .i64 k ∧ Aside0 (Kd.R Kd.string 9 wr w.heap.size (fun _ => True) v (vals (r.q.f2.take k) name)) ∧ Aside0 (Below w.heap.size w wr)) (fun _ i _ => r.q.f2.length - (intOf i).toNat)
  case atStart => exact ⟨0, Nat.zero_le _, rfl, ⟨by rw [List.take_zero]; exact Kd.R_nil _ _ _ _ _⟩, ⟨Below.refl _ _⟩⟩
  case round =>
    obtain ⟨k, hk, rfl, hR, hB⟩ := hrel
    by_cases hlt : k < r.q.f2.length
    · obtain ⟨ad, he, hx0, hx1⟩ := at_T38 HC.out (k : Int) (by omega) (by omega)
      subst he
      replace hx0 := pw_cell_below hB.out hx0
      replace hx1 := pw_cell_below hB.out hx1
      have hsn := Aside0.mk (vals_snoc r.q.f2 k name r.q.f2[k] (List.getElem?_eq_getElem hlt))
      have hrd : rd_T38 r.q.f2 (k : Int) = r.q.f2[k] := by simp [rd_T38, List.getD_eq_getElem?_getD, List.getElem?_eq_getElem hlt]
      rw [hrd] at hx0 hx1
      clear hrd
      simp only [Int.toNat_natCast] at hx0 hx1
      revert hx0 hx1 hsn
      generalize r.q.f2[k] = x
      intro hx0 hx1 hsn
      obtain ⟨Av, cv, hv⟩ := R_slice' hR.out
      subst hv
      cases hn : (x.f0.toList == name.toList)
      · have HN := Aside0.mk hn
        go_wp2_with fail
        go_roundw
        case rel =>
          refine ⟨k + 1, by omega, by go_num, ⟨?_⟩, ⟨hB.out.alloc (hB.out.size) _⟩⟩
          rw [hsn.out, if_neg (by rw [HN.out]; decide), List.append_nil]
          exact Kd.R_alloc hR.out _
        case measure => simp [intOf]; omega
      · have HN := Aside0.mk hn
        have hvl := vals_len (r.q.f2.take k) name
        rw [List.length_take] at hvl
        go_wp2_with (at_builtin; go_must (refine Kd.R_append Kd.string (w0 := w) w.heap.size rfl (.tmp 22) (.tmp 25) 33 9 _ 16 rfl Tryz.underlying33 info9h rfl (by decide) (by decide) (.slice Av (vals (List.take k r.q.f2) name).length cv) (vals (List.take k r.q.f2) name) x.f1 [.string x.f1] (fun _ => True) (fun _ => False) rfl (by simp [Act.eval]) rfl (fun _ h => h.elim) (fun _ _ => trivial) (Kd.R_alloc hR.out _) (hB.out.alloc (hB.out.size) _) ?c2 ?c3 ?_))
        case c2 => have := hB.out.size; simp; omega
        case c3 => omega
        intro v1 w1 hR1 hB1 _ _
        have HR1 := Aside0.mk hR1
        have HB1 := Aside0.mk hB1
        clear hR1 hB1
        go_wp2_with fail
        go_roundw
        case rel =>
          refine ⟨k + 1, by omega, by go_num, ⟨?_⟩, HB1⟩
          rw [hsn.out, if_pos HN.out]
          exact HR1.out
        case measure => simp [intOf]; omega
    · go_wp2_with fail
      go_ret
      refine ⟨_, rfl, ?_, hB.out⟩
      have : r.q.f2.take k = r.q.f2 := List.take_of_length_le (by omega)
      rw [this] at hR
      exact hR.out
theorem all_calls2 {w : World} {S : Nat → Prop} {g : Nat} {r : Rd} {vw vh vb vt : Value} {T : Nat → Prop} (h : RdAt w S g r vw vh vb vt T) (name : ByteArray) (l : List S38) (e : r.q.f2 = l) (hl : l.length < 1000000000) :
    Calls Tryz.prog 136 #[.pointer (some ⟨g, 0, none⟩), .string name] w fun e w' => ∃ v, e = .returned v ∧ Kd.R Kd.string 9 w' w.heap.size (fun _ => True) v (vals l name) ∧ Below w.heap.size w w' := by
  subst e
  exact all_calls h name hl
end Go.Proofs.YtafhkpnmolfjeaaGreatDoor.Rq

/-! ## RqW: What a step of the reader leaves; the library's variables; wrappers of contracts. -/
set_option linter.unusedVariables false
set_option linter.unusedSimpArgs false
namespace Go.Proofs.YtafhkpnmolfjeaaGreatDoor.Rq
open Go.RowKit Go.Proofs.YtafhkpnmolfjeaaGreatDoorW.PrintWords Go.Proofs.YtafhkpnmolfjeaaGreatDoor.PRequestBack

/-- What the library's variables hold. -/
structure Glob (w : World) : Prop where
  maxLen : ∃ m, w.cell? ⟨1, 0, none⟩ = some (.int .i64 m)
  syn : ∃ t p, w.cell? ⟨5, 0, none⟩ = some (.iface t p)
  rng : ∃ t p, w.cell? ⟨6, 0, none⟩ = some (.iface t p)
theorem Glob.below {w w1 : World} (h : Glob w) (hb : Below w.heap.size w w1) : Glob w1 := by
  obtain ⟨⟨m, h1⟩, ⟨t, p, h2⟩, ⟨t', p', h3⟩⟩ := h
  exact ⟨⟨m, pw_cell_below hb h1⟩, ⟨t, p, pw_cell_below hb h2⟩, ⟨t', p', pw_cell_below hb h3⟩⟩
theorem cell_frame {S : Nat → Prop} {w w1 : World} (hf : Frame S w w1) {a : Addr} {v : Value} (ha : ¬ S a.block) (h : w.cell? a = some v) : w1.cell? a = some v :=
  (World.cell?_of_block (hf.block _ (World.block_lt_of_cell? w _ h) ha)).trans h
theorem Glob.frame {S : Nat → Prop} {w w1 : World} (h : Glob w) (hf : Frame S w w1) (hs : ∀ k, S k → 9 ≤ k) : Glob w1 := by
  obtain ⟨⟨m, h1⟩, ⟨t, p, h2⟩, ⟨t', p', h3⟩⟩ := h
  have hn : ∀ k, k < 9 → ¬ S k := fun k hk hc => by have := hs k hc; omega
  exact ⟨⟨m, cell_frame hf (hn 1 (by omega)) h1⟩, ⟨t, p, cell_frame hf (hn 5 (by omega)) h2⟩, ⟨t', p', cell_frame hf (hn 6 (by omega)) h3⟩⟩

def IsRd (w : World) (S : Nat → Prop) (g : Nat) (r : Rd) : Prop := ∃ vw vh vb vt T, RdAt w S g r vw vh vb vt T
inductive Res where
  | more (r : Rd)
  | wait (r : Rd)
  | over (l : List S53)
def ResAt (w : World) (S : Nat → Prop) (g : Nat) (res : Res) (e : Ending) (w' : World) : Prop :=
  Frame S w w' ∧ match res with
    | .more r => e = .returned (.bool true) ∧ IsRd w' S g r
    | .wait r => e = .returned (.bool false) ∧ IsRd w' S g r
    | .over l => e = .returned (.bool false) ∧ ∃ vt T, OvAt w' S g vt T l
theorem ResAt.from {w w1 w2 : World} {S : Nat → Prop} {g : Nat} {res : Res} {e : Ending} (h : ResAt w1 S g res e w2) (hf : Frame S w w1) : ResAt w S g res e w2 := ⟨hf.trans h.1, h.2⟩
theorem ResAt.bool {w w2 : World} {S : Nat → Prop} {g : Nat} {res : Res} {e : Ending} (h : ResAt w S g res e w2) : ∃ b, e = .returned (.bool b) := by
  obtain ⟨_, h⟩ := h
  cases res with
  | more r => exact ⟨_, h.1⟩
  | wait r => exact ⟨_, h.1⟩
  | over l => exact ⟨_, h.1⟩
def stopF (st : Int) (r : Rd) : Res := .over (r.told ++ [⟨z24, st⟩])
def doneF (r : Rd) : Res := if r.q.f4 then .more { r.begun with told := r.told ++ [⟨r.whole, 0⟩] } else .over (r.told ++ [⟨r.whole, 0⟩])
theorem stop_res {w : World} {S : Nat → Prop} {g : Nat} {r : Rd} (h : IsRd w S g r) (hU : ∀ k, w.heap.size ≤ k → S k) (st : Int) (hst : (st != 0) = true) (hl : r.told.length < 1000000000000) :
    Calls Tryz.prog 104 #[.pointer (some ⟨g, 0, none⟩), .int .i64 st] w (ResAt w S g (stopF st r)) := by
  obtain ⟨vw, vh, vb, vt, T, h⟩ := h
  refine (stop_some h hU st hst hl).mono ?_
  rintro e w' ⟨rfl, hf, vt1, T1, hr⟩
  exact ⟨hf, rfl, vt1, T1, OvAt.of_rd hr rfl⟩
theorem done_res {w : World} {S : Nat → Prop} {g : Nat} {r : Rd} (h : IsRd w S g r) (hU : ∀ k, w.heap.size ≤ k → S k) (hl : r.told.length < 1000000000000) :
    Calls Tryz.prog 138 #[.pointer (some ⟨g, 0, none⟩)] w (ResAt w S g (doneF r)) := by
  obtain ⟨vw, vh, vb, vt, T, h⟩ := h
  cases hk : r.q.f4
  · refine (done_over h hU hl hk).mono ?_
    rintro e w' ⟨rfl, hf, vt1, T1, hr⟩
    unfold doneF
    rw [hk]
    exact ⟨hf, rfl, vt1, T1, hr⟩
  · refine (done_keep h hU hl hk).mono ?_
    rintro e w' ⟨rfl, hf, vt1, T1, hr⟩
    unfold doneF
    rw [hk]
    exact ⟨hf, rfl, _, _, _, _, _, hr⟩

theorem contains_calls {w : World} {base : Nat} {ok : Nat → Prop} {v : Value} {l : List ByteArray} (h : Kd.R Kd.string 9 w base ok v l) (x : ByteArray) :
    Calls Tryz.prog 135 #[v, .string x] w fun e w' => e = .returned (.bool (Lib.containsS l x)) ∧ w' = w := by
  have ho := Kd.own_of_R h
  rcases Nat.eq_zero_or_pos l.length with h0 | h0
  · obtain ⟨A, c, rfl⟩ := own_slice ho
    obtain rfl : l = [] := List.eq_nil_of_length_eq_zero h0
    refine (Tryz.slices_Contains_string_empty A c x w).mono ?_
    rintro e w' ⟨rfl, rfl⟩
    exact ⟨by rw [show Lib.containsS [] x = false from by rw [Bool.eq_false_iff, Ne, Lib.containsS_iff]; simp], rfl⟩
  · obtain ⟨g, cap, rfl, _, _⟩ := ho.form h0
    have hm : l.length ≤ 9223372036854775807 := by
      rcases ho.2 with ⟨h1, h2⟩ | ⟨g', cap', cur, he, _, _, h1, h2, _⟩
      · omega
      · simp only [maxLen] at h2; omega
    refine (Tryz.slices_Contains_string g 0 l.length cap l x w (Nat.le_refl _) hm (fun j hj => ?_)).mono ?_
    · have := ho.cells (g := g) rfl j (.string (l.getD j ByteArray.empty)) (by simp [encs, List.getD_eq_getElem?_getD, List.getElem?_eq_getElem hj])
      rwa [add_at] at this
    · rintro e w' ⟨rfl, rfl⟩
      exact ⟨by rw [List.take_length], rfl⟩
/-- What Atoi tells: the number, if it is one. -/
def atoiF (s : ByteArray) : Option Int := match Lib.atoiAll s.data.toList with | .ok v => some v | _ => none
theorem atoi_calls (s : ByteArray) (w : World) (hG : Glob w) (hs : s.size ≤ 281474976710656) :
    Calls Tryz.prog 128 #[.string s] w fun e w' => Below w.heap.size w w' ∧ ((∃ v, atoiF s = some v ∧ e = .returned (.tuple #[.int .i64 v, .nilIface])) ∨ (atoiF s = none ∧ ∃ n N, e = .returned (.tuple #[.int .i64 n, .iface 235 (.pointer (some ⟨N, 0, none⟩))]))) := by
  obtain ⟨_, ⟨t, p, h2⟩, ⟨t', p', h3⟩⟩ := hG
  rcases h : Lib.atoiAll s.data.toList with v | _ | _
  · skip
    refine (Tryz.strconv_Atoi_ok s (by omega) v h w).mono ?_
    rintro e w' ⟨rfl, hw⟩
    refine ⟨?_, .inl ⟨v, by simp [atoiF, h], rfl⟩⟩
    rcases hw with rfl | ⟨t, rfl⟩
    · exact Below.refl _ _
    · exact ⟨rfl, rfl, rfl, by rw [Lib.bytesWorld_size]; omega, fun k hk => Lib.bytesWorld_at_old w 5 t k hk⟩
  · skip
    refine (Tryz.strconv_Atoi_syntax s hs h _ w h2 (.inr ⟨t, p, rfl⟩)).mono ?_
    rintro e w' ⟨N, rfl, _, _, hb⟩
    exact ⟨hb, .inr ⟨by simp [atoiF, h], _, N, rfl⟩⟩
  · skip
    refine (Tryz.strconv_Atoi_range s hs h _ w h3 (.inr ⟨t', p', rfl⟩)).mono ?_
    rintro e w' ⟨N, rfl, _, _, hb⟩
    exact ⟨hb, .inr ⟨by simp [atoiF, h], _, N, rfl⟩⟩
end Go.Proofs.YtafhkpnmolfjeaaGreatDoor.Rq
