/- Words for the walks of package request's Reader: frames, rows of bytes, the reader in memory. -/
import Derived.Test.YtafhkpnmolfjeaaGreatDoorPRequestBackx0
import Derived.Test.YtafhkpnmolfjeaaGreatDoorShelf
import Derived.Lib.SlBytesConst
import Derived.WalkSpells
import Derived.WalkLawsBesides
import Derived.Laws.EntriesVeiled
set_option linter.unusedVariables false
set_option linter.unusedSimpArgs false
namespace Go.Proofs.YtafhkpnmolfjeaaGreatDoor.Rq
open Go.RowKit Go.Proofs.YtafhkpnmolfjeaaGreatDoorW.PrintWords Go.Proofs.YtafhkpnmolfjeaaGreatDoor.PRequestBack

/-! ### Frames: nothing that lay there has turned but blocks of S -/
structure Frame (S : Nat → Prop) (w w' : World) : Prop where
  os : w'.os = w.os
  tape : w'.tape = w.tape
  output : w'.output = w.output
  size : w.heap.size ≤ w'.heap.size
  block : ∀ k, k < w.heap.size → ¬ S k → w'.heap[k]? = w.heap[k]?
namespace Frame
variable {S S' : Nat → Prop} {w w1 w2 : World}
theorem refl (S : Nat → Prop) (w : World) : Frame S w w := ⟨rfl, rfl, rfl, Nat.le_refl _, fun _ _ _ => rfl⟩
theorem trans (h : Frame S w w1) (k : Frame S w1 w2) : Frame S w w2 :=
  ⟨k.os.trans h.os, k.tape.trans h.tape, k.output.trans h.output, Nat.le_trans h.size k.size, fun i hi hs => (k.block i (Nat.lt_of_lt_of_le hi h.size) hs).trans (h.block i hi hs)⟩
theorem mono (h : Frame S w w1) (hs : ∀ k, k < w.heap.size → S k → S' k) : Frame S' w w1 := ⟨h.os, h.tape, h.output, h.size, fun k hk hn => h.block k hk (fun hc => hn (hs k hk hc))⟩
theorem of_below (h : Below w.heap.size w w1) : Frame S w w1 := ⟨h.os, h.tape, h.output, h.size, fun k hk _ => h.block k hk⟩
theorem of_grown {row : Option Nat} (h : w.grownBy w1 row) (hr : ∀ k, row = some k → S k) : Frame S w w1 := ⟨h.os, h.tape, h.output, h.size, fun k hk hn => h.block k hk (fun e => hn (hr k e.symm))⟩
theorem drewN (h : Frame S w w1) (n : Nat) : Frame S w (w1.drewN n) := ⟨h.os, h.tape, h.output, h.size, h.block⟩
theorem drew (h : Frame S w w1) : Frame S w w1.drew := ⟨h.os, h.tape, h.output, h.size, h.block⟩
theorem alloc (h : Frame S w w1) (o : Obj) : Frame S w (w1.alloc o) := h.trans (of_below ((Below.refl _ _).alloc (Nat.le_refl _) o))
theorem setCell (h : Frame S w w1) {a : Addr} (ha : S a.block) (v : Value) : Frame S w (w1.setCell a v) :=
  h.trans ⟨rfl, rfl, rfl, by simp [World.setCell], fun k _ hn => Below.heap_setCell _ _ _ k (fun e => hn (e ▸ ha))⟩
theorem putIn {g : Nat} (h : Frame S w w1) (hg : S g) (i : Nat) (v : Value) : Frame S w (w1.setCell ⟨g, i, none⟩ v) := h.setCell (a := ⟨g, i, none⟩) hg v
theorem put {g : Nat} (h : Frame (fun k => k = g) w w1) (i : Nat) (v : Value) : Frame (fun k => k = g) w (w1.setCell ⟨g, i, none⟩ v) := h.setCell (a := ⟨g, i, none⟩) rfl v
theorem below (h : Frame S w w1) (hs : ∀ k, S k → w.heap.size ≤ k) : Below w.heap.size w w1 := ⟨h.os, h.tape, h.output, h.size, fun k hk => h.block k hk (fun hc => by have := hs k hc; omega)⟩
end Frame
theorem same_refl (g : Nat) (w : World) : ∀ k, k ≠ g → k < w.heap.size → w.heap[k]? = w.heap[k]? := fun _ _ _ => rfl
theorem same_put {g : Nat} {w w1 : World} (h : ∀ k, k ≠ g → k < w.heap.size → w1.heap[k]? = w.heap[k]?) (i : Nat) (v : Value) : ∀ k, k ≠ g → k < w.heap.size → (w1.setCell ⟨g, i, none⟩ v).heap[k]? = w.heap[k]? :=
  fun k hk hl => (Below.heap_setCell w1 ⟨g, i, none⟩ v k hk).trans (h k hk hl)
theorem drewN_heap (w : World) (n : Nat) : (w.drewN n).heap = w.heap := rfl

theorem add_at (b off j : Nat) : (⟨b, off, none⟩ : Addr).add j = ⟨b, off + j, none⟩ := by unfold Addr.add; split <;> simp_all

theorem new_cell (w : World) (C : Array Value) (t : TypeId) (fr : Nat × Nat) (i : Nat) : (w.alloc (.cells C t fr)).cell? ⟨w.heap.size, i, none⟩ = C[i]? := by
  have h := heap_alloc_new w (.cells C t fr)
  simp only [World.cell?, h]
  rfl
/-! ### Slices as values whose make is not looked into -/
def isSl (v : Value) (n : Nat) : Prop := ∃ A c, v = .slice A n c ∧ n ≤ c ∧ n ≤ 9223372036854775807 ∧ (A = none → c = 0) ∧ ∀ a, A = some a → a.spot = none
theorem isSl.nil : isSl (.slice none 0 0) 0 := ⟨none, 0, rfl, Nat.le_refl _, by omega, fun _ => rfl, fun _ h => by cases h⟩
theorem isSl.len {v : Value} {n : Nat} (h : isSl v n) {t e : TypeId} (ht : Tryz.prog.underlying t = some (.slice e)) (ty : TypeId) (w : World) : (Builtin.len_ #[t] ty #[v]).run Tryz.prog w = .ok (.int .i64 n) w := by
  obtain ⟨A, c, rfl, _⟩ := h
  simp [Builtin.len_, goInt, run_underlying ht]
theorem isSl.store {v : Value} {n : Nat} (h : isSl v n) : ∀ (a : Addr) (m : Mode) (w : World), (store a v m).run Tryz.prog w = stored Tryz.prog w a v m := by
  obtain ⟨A, c, rfl, _⟩ := h
  intro a m w
  exact run_store Tryz.prog w a _ m rfl
theorem isSl.storeCells {v : Value} {n : Nat} (h : isSl v n) : ∀ (a : Addr) (w : World), (storeCells a [v]).run Tryz.prog w = stored Tryz.prog w a v .plain := by
  intro a w
  have hs := h.store a .plain w
  have ha : a.add 0 = a := by simp [Addr.add]
  simp only [Go.storeCells, Nat.zero_add, ha, Sem.run_bind, hs]
  cases stored Tryz.prog w a v .plain <;> rfl
theorem isSl.cells {v : Value} {n : Nat} (h : isSl v n) : v.cells = #[v] := by
  obtain ⟨A, c, rfl, _⟩ := h
  rfl

def ints (xs : List UInt8) : List Int := xs.map fun x => (x.toNat : Int)
def str (xs : List UInt8) : ByteArray := ⟨xs.toArray⟩
theorem ints_length (xs : List UInt8) : (ints xs).length = xs.length := by simp [ints]
theorem ints_append (xs ys : List UInt8) : ints (xs ++ ys) = ints xs ++ ints ys := by simp [ints]
theorem str_toList (xs : List UInt8) : (str xs).data.toList = xs := rfl
theorem str_size (xs : List UInt8) : (str xs).size = xs.length := rfl
theorem bytesOf_ints (xs : List UInt8) : Lib.bytesOf (ints xs) = xs := by
  simp only [Lib.bytesOf, ints, List.map_map]
  conv => rhs; rw [← List.map_id xs]
  exact List.map_congr_left (fun x _ => by simp)
theorem strOfNums_ints (xs : List UInt8) : strOfNums (ints xs) = str xs := by
  have h := bytesOf_ints xs
  simp only [Lib.bytesOf] at h
  unfold strOfNums str
  rw [← h]
  simp [ints]
theorem getD_ints (xs : List UInt8) (j : Nat) : (ints xs).getD j 0 = ((xs.getD j 0).toNat : Int) := by
  simp only [ints, List.getD_eq_getElem?_getD, List.getElem?_map]
  cases xs[j]? <;> rfl
/-- Bytes that lie in a block of type 5, not frozen; they are only read. -/
def Cut5 (w : World) (v : Value) (xs : List UInt8) : Prop :=
  isSl v xs.length ∧
  (0 < xs.length → ∃ b off c cells, v = .slice (some ⟨b, off, none⟩) xs.length c ∧ w.heap[b]? = some (.cells cells 5 (0, 0)) ∧ ∀ (j : Nat) (x : UInt8), xs[j]? = some x → cells[off + j]? = some (.int .u8 x.toNat))
theorem Cut5.sl {w : World} {v : Value} {xs : List UInt8} (h : Cut5 w v xs) : isSl v xs.length := h.1
theorem Cut5.nil (w : World) : Cut5 w (.slice none 0 0) [] := ⟨isSl.nil, fun h => absurd h (by simp)⟩
theorem Cut5.move {w w1 : World} {v : Value} {xs : List UInt8} (h : Cut5 w v xs) (hm : ∀ k cells, v.ownBlock = some k → w.heap[k]? = some (.cells cells 5 (0, 0)) → w1.heap[k]? = w.heap[k]?) : Cut5 w1 v xs := by
  obtain ⟨h1, h3⟩ := h
  refine ⟨h1, fun h0 => ?_⟩
  obtain ⟨b, off, c, cells, hv, hh, hc⟩ := h3 h0
  exact ⟨b, off, c, cells, hv, (hm b _ (by rw [hv]; rfl) hh).trans hh, hc⟩
theorem Cut5.cell {w : World} {v : Value} {xs : List UInt8} (h : Cut5 w v xs) (h0 : 0 < xs.length) : ∃ ad c, v = .slice (some ad) xs.length c ∧ xs.length ≤ c ∧ ∀ j, j < xs.length → w.cell? (ad.add j) = some (.int .u8 ((ints xs).getD j 0)) := by
  obtain ⟨⟨A, c', hv', hle, _⟩, h3⟩ := h
  obtain ⟨b, off, c, cells, hv, hh, hc⟩ := h3 h0
  refine ⟨⟨b, off, none⟩, c, hv, ?_, fun j hj => ?_⟩
  · rw [hv] at hv'; injection hv' with _ _ hcc; omega
  · have := hc j _ (List.getElem?_eq_getElem hj)
    simp [add_at, World.cell?, hh, this, ints, List.getD_eq_getElem?_getD, List.getElem?_eq_getElem hj]

theorem conv40 (w : World) (C : Array Value) (n c : Nat) : (convert 40 40 (.slice (some ⟨w.heap.size, 0, none⟩) n c)).run Tryz.prog (w.alloc (.cells C 5)) = .ok (.slice (some ⟨w.heap.size, 0, none⟩) n c) (w.alloc (.cells C 5 (C.size, C.size + 1))) := Lib.run_convert_bytes_const (P := Tryz.prog) w 40 5 C n c Tryz.underlying40 Tryz.underlying5
set_option maxRecDepth 100000 in
theorem Cut5.text {w : World} {v : Value} {xs : List UInt8} (h : Cut5 w v xs) : (convert 40 9 v).run Tryz.prog w = .ok (.string (str xs)) w := by
  rw [← strOfNums_ints]
  obtain ⟨A, c, rfl, hle, _, hn, hsp⟩ := h.sl
  rcases Nat.eq_zero_or_pos xs.length with h0 | h0
  · obtain rfl : xs = [] := List.eq_nil_of_length_eq_zero h0
    cases A with
    | none =>
      obtain rfl := hn rfl
      exact run_convert_bytes_nil w 40 5 Tryz.underlying40 Tryz.underlying5 0 0 9 Tryz.underlying9
    | some a =>
      obtain ⟨b, off, sp⟩ := a
      obtain rfl : sp = none := hsp _ rfl
      exact run_convert_bytes_arg w 40 5 Tryz.underlying40 Tryz.underlying5 b off 0 c ([] : List Int) (by rfl) (fun i hi => absurd hi (Nat.not_lt_zero i)) 9 Tryz.underlying9
  · obtain ⟨b, off, c', cells, hv, hh, hc⟩ := h.2 h0
    injection hv with e1 _ e3
    subst e1 e3
    refine run_convert_bytes_arg w 40 5 Tryz.underlying40 Tryz.underlying5 b off xs.length c (ints xs) (ints_length xs) (fun i hi => ?_) 9 Tryz.underlying9
    have h1 := hc i _ (List.getElem?_eq_getElem hi)
    rw [getD_ints]
    simp [World.cell?, hh, h1, List.getD_eq_getElem?_getD, List.getElem?_eq_getElem hi]
theorem info5 : (Tryz.prog.info? 5).map (fun i => (i.zero, i.size, i.bytes)) = some (some (.int .u8 0), 1, 1) := by kernel_rfl
theorem sizeOf5 : ∀ w, (sizeOf 5).run Tryz.prog w = .ok 1 w := by
  intro w
  have h := info5
  obtain ⟨i, hi, hz⟩ := Option.map_eq_some_iff.1 h
  simp only [Prod.mk.injEq] at hz
  simp [sizeOf, typeInfo, hi, hz.2.1]
/-- v[lo:hi], whatever lies there. -/
def cutV (v : Value) (lo hi : Nat) : Value := match v with
  | .slice A _ c => .slice (if c = lo then A else A.map (·.add lo)) (hi - lo) (c - lo)
  | v => v
theorem cutV_sl {v : Value} {n : Nat} (h : isSl v n) (lo hi : Nat) (h1 : lo ≤ hi) (h2 : hi ≤ n) : isSl (cutV v lo hi) (hi - lo) := by
  obtain ⟨A, c, rfl, hle, hm, hn, hsp⟩ := h
  refine ⟨_, _, rfl, by omega, by omega, fun he => ?_, fun a ha => ?_⟩
  · split at he
    · have := hn he; omega
    · simp at he; have := hn he; omega
  · split at ha
    · exact hsp a ha
    · cases A with
      | none => cases ha
      | some b =>
        simp only [Option.map_some, Option.some.injEq] at ha
        subst ha
        have := hsp b rfl
        unfold Addr.add
        split
        · exact this
        · rfl
theorem run_cut {v : Value} {n : Nat} (h : isSl v n) (lo hi : Int) (h0 : 0 ≤ lo) (h1 : lo ≤ hi) (h2 : hi ≤ n) (w : World) :
    (Instr.slice 40 v (some (.int .i64 lo)) (some (.int .i64 hi)) none).run Tryz.prog w = .ok (cutV v lo.toNat hi.toNat) w := by
  obtain ⟨A, c, rfl, hle, hm, hn⟩ := h
  have he : Tryz.prog.elem 40 = 5 := by kernel_rfl
  rw [run_slice_lh w 40 A n c (by rw [he]; exact Tryz.underlying40) .i64 .i64 lo hi h0 h1 (by omega), he, sizeOf5]
  simp [sliced, cutV, Result.andThen]
theorem run_cut_h {v : Value} {n : Nat} (h : isSl v n) (hi : Int) (h0 : 0 ≤ hi) (h2 : hi ≤ n) (w : World) :
    (Instr.slice 40 v none (some (.int .i64 hi)) none).run Tryz.prog w = .ok (cutV v 0 hi.toNat) w := by
  obtain ⟨A, c, rfl, hle, hm, hn⟩ := h
  have he : Tryz.prog.elem 40 = 5 := by kernel_rfl
  rw [run_slice_h w 40 A n c (by rw [he]; exact Tryz.underlying40) .i64 hi h0 (by omega), he, sizeOf5]
  simp [sliced, cutV, Result.andThen]
theorem run_cut_l {v : Value} {n : Nat} (h : isSl v n) (lo : Int) (h0 : 0 ≤ lo) (h2 : lo ≤ n) (w : World) :
    (Instr.slice 40 v (some (.int .i64 lo)) none none).run Tryz.prog w = .ok (cutV v lo.toNat n) w := by
  obtain ⟨A, c, rfl, hle, hm, hn⟩ := h
  have he : Tryz.prog.elem 40 = 5 := by kernel_rfl
  rw [run_slice_l w 40 A n c (by rw [he]; exact Tryz.underlying40) .i64 lo h0 (by omega), he, sizeOf5]
  simp [sliced, cutV, Result.andThen]
theorem cutV_block (v : Value) (lo hi : Nat) : (cutV v lo hi).ownBlock = v.ownBlock := by
  cases v <;> try rfl
  rename_i A n c
  simp only [cutV]
  by_cases h : c = lo
  · rw [if_pos h]; cases A <;> rfl
  · rw [if_neg h]
    cases A with
    | none => rfl
    | some a => simp only [Option.map_some, Value.ownBlock, Addr.add]; split <;> rfl
theorem Cut5.cut {w : World} {v : Value} {xs : List UInt8} (h : Cut5 w v xs) (lo hi : Nat) (h1 : lo ≤ hi) (h2 : hi ≤ xs.length) : Cut5 w (cutV v lo hi) ((xs.take hi).drop lo) := by
  have hl : ((xs.take hi).drop lo).length = hi - lo := by simp; omega
  refine ⟨by rw [hl]; exact cutV_sl h.1 lo hi h1 h2, fun h0 => ?_⟩
  rw [hl] at h0 ⊢
  obtain ⟨b, off, c, cells, rfl, hh, hc⟩ := h.2 (by omega)
  have hle : xs.length ≤ c := by obtain ⟨A, c', hv, hle, _⟩ := h.1; injection hv with _ _ e; omega
  refine ⟨b, off + lo, c - lo, cells, ?_, hh, fun j x hx => ?_⟩
  · simp only [cutV]
    rw [if_neg (by omega)]
    simp [add_at]
  · rw [List.getElem?_drop, List.getElem?_take] at hx
    split at hx
    · rw [Nat.add_assoc]; exact hc _ _ hx
    · cases hx

/-! ### The reader -/
inductive Nx where
  | over | head | body | size | chunk
  deriving DecidableEq
def Nx.val (g : Nat) : Nx → Value
  | .over => .nilFunc
  | .head => .func (.func 75) #[.pointer (some ⟨g, 0, none⟩)] #[]
  | .body => .func (.func 139) #[.pointer (some ⟨g, 0, none⟩)] #[]
  | .size => .func (.func 137) #[.pointer (some ⟨g, 0, none⟩)] #[]
  | .chunk => .func (.func 177) #[.pointer (some ⟨g, 0, none⟩)] #[]
structure Rd where
  wait : List UInt8
  used : Int
  nx : Nx
  q : S24
  head : Int
  lines : Int
  old : Bool
  body : List UInt8
  size : Int
  told : List S53
def cellsRd (g : Nat) (r : Rd) (vw vh vb vt : Value) : Array Value :=
  #[vw, .int .i64 r.used, r.nx.val g, .string r.q.f0, .string r.q.f1, vh, .string r.q.f3, .bool r.q.f4, .int .i64 r.head, .int .i64 r.lines, .bool r.old, vb, .int .i64 r.size, vt]
/-- The reader r lies in block g; its rows lie in blocks of S. -/
structure RdAt (w : World) (S : Nat → Prop) (g : Nat) (r : Rd) (vw vh vb vt : Value) (T : Nat → Prop) : Prop where
  cells : w.heap[g]? = some (.cells (cellsRd g r vw vh vb vt) 56 (0, 0))
  own : S g
  wait : Cut5 w vw r.wait
  body : w.ownsRow 0 5 1 vb r.body.length (nums .u8 (ints r.body))
  heads : k38.R 38 w 0 (fun k => vh.ownBlock = some k) vh r.q.f2
  told : k53.R 53 w 0 T vt r.told
  sw : ∀ k, vw.ownBlock = some k → S k ∧ k < w.heap.size ∧ vb.ownBlock ≠ some k
  sb : ∀ k, vb.ownBlock = some k → S k
  sh : ∀ k, vh.ownBlock = some k → S k ∧ ¬ T k
  st : ∀ k, T k → S k ∧ k < w.heap.size

section
variable {w w1 : World} {S : Nat → Prop} {g : Nat} {r : Rd} {vw vh vb vt : Value} {T : Nat → Prop}
theorem cell_of_heap {cs : Array Value} {t : TypeId} (h : w.heap[g]? = some (.cells cs t (0, 0))) (i : Nat) (v : Value) (hi : cs[i]? = some v) : w.cell? ⟨g, i, none⟩ = some v := by
  simp [World.cell?, h, hi]
theorem frozen_of_heap {cs : Array Value} {t : TypeId} (h : w.heap[g]? = some (.cells cs t (0, 0))) (i : Nat) : w.frozen? ⟨g, i, none⟩ = false := by
  simp [World.frozen?, h]
theorem heap_set {cs : Array Value} {t : TypeId} (h : w.heap[g]? = some (.cells cs t (0, 0))) (i : Nat) (v : Value) : (w.setCell ⟨g, i, none⟩ v).heap[g]? = some (.cells (cs.setIfInBounds i v) t (0, 0)) := by
  obtain ⟨hlt, hk⟩ := Array.getElem?_eq_some_iff.1 h
  show (w.heap.modify g _)[g]? = _
  rw [Array.getElem?_eq_getElem (by rw [Array.size_modify]; exact hlt), Array.getElem_modify_self, hk]
  rfl
theorem Cut5.over {v : Value} {xs : List UInt8} {cs : Array Value} (h : Cut5 w v xs) (hf : Frame (fun k => k = g) w w1) (hg : w.heap[g]? = some (.cells cs 56 (0, 0))) : Cut5 w1 v xs :=
  h.move fun k c _ hh => hf.block k (Array.getElem?_eq_some_iff.1 hh).1 (fun e => by rw [e, hg] at hh; injection hh with hh; injection hh with _ ht; cases ht)
/-- Another make of the same reader, the rows having moved. -/
theorem RdAt.lt (h : RdAt w S g r vw vh vb vt T) : g < w.heap.size := (Array.getElem?_eq_some_iff.1 h.cells).1
theorem RdAt.move (h : RdAt w S g r vw vh vb vt T) (hs : w.heap.size ≤ w1.heap.size) (hm : ∀ k, S k → k < w.heap.size → w1.heap[k]? = w.heap[k]?) : RdAt w1 S g r vw vh vb vt T where
  cells := (hm g h.own h.lt).trans h.cells
  own := h.own
  wait := h.wait.move fun k _ hk hh => hm k (h.sw k hk).1 (Array.getElem?_eq_some_iff.1 hh).1
  body := own_move h.body fun k hk => hm k (h.sb k hk) (own_lt h.body k hk)
  heads := Kd.R_step h.heads fun k hk hl => hm k (h.sh k hk).1 hl
  told := Kd.R_step h.told fun k hk hl => hm k (h.st k hk).1 hl
  sw := fun k hk => ⟨(h.sw k hk).1, Nat.lt_of_lt_of_le (h.sw k hk).2.1 hs, (h.sw k hk).2.2⟩
  sb := h.sb
  sh := h.sh
  st := fun k hk => ⟨(h.st k hk).1, Nat.lt_of_lt_of_le (h.st k hk).2 hs⟩
theorem RdAt.drewN (h : RdAt w S g r vw vh vb vt T) (n : Nat) : RdAt (w.drewN n) S g r vw vh vb vt T := h.move (Nat.le_refl _) (fun _ _ _ => rfl)
/-- The reader's own cells have been written; its rows are as they were. -/
theorem RdAt.turn {r1 : Rd} {vw1 : Value} (h : RdAt w S g r vw vh vb vt T) (hg : w1.heap[g]? = some (.cells (cellsRd g r1 vw1 vh vb vt) 56 (0, 0))) (hs : w.heap.size ≤ w1.heap.size) (hm : ∀ k, k ≠ g → k < w.heap.size → w1.heap[k]? = w.heap[k]?)
    (hw : Cut5 w vw1 r1.wait) (hwb : ∀ k, vw1.ownBlock = some k → vw.ownBlock = some k) (hb : r1.body = r.body) (hh : r1.q.f2 = r.q.f2) (ht : r1.told = r.told) : RdAt w1 S g r1 vw1 vh vb vt T where
  cells := hg
  own := h.own
  wait := hw.move fun k c hk hh => hm k (fun e => by rw [e, h.cells] at hh; injection hh with hh; injection hh with _ ht; cases ht) (Array.getElem?_eq_some_iff.1 hh).1
  body := by
    rw [hb]
    refine own_move h.body fun k hk => hm k (fun e => ?_) (own_lt h.body k hk)
    obtain ⟨c, hc⟩ := own_typed h.body k hk
    rw [e, h.cells] at hc; injection hc with hc; injection hc with _ ht; cases ht
  heads := by
    rw [hh]
    refine Kd.R_mono (Kd.R_move (Kd.R_bound h.heads) fun k hk => hm k (fun e => ?_) hk.2.2.1) (fun _ hk => hk.1)
    obtain ⟨_, _, _, q, hq, c, hc⟩ := hk
    rw [e, h.cells] at hc; injection hc with hc; injection hc with _ ht
    have hE : k38.E = [] := rfl
    rw [hE, ← ht] at hq; exact absurd hq (by decide)
  told := by
    rw [ht]
    refine Kd.R_mono (Kd.R_move (Kd.R_bound h.told) fun k hk => hm k (fun e => ?_) hk.2.2.1) (fun _ hk => hk.1)
    obtain ⟨_, _, _, q, hq, c, hc⟩ := hk
    rw [e, h.cells] at hc; injection hc with hc; injection hc with _ ht
    have hE : k53.E = [38] := rfl
    rw [hE, ← ht] at hq; exact absurd hq (by decide)
  sw := fun k hk => ⟨(h.sw k (hwb k hk)).1, Nat.lt_of_lt_of_le (h.sw k (hwb k hk)).2.1 hs, (h.sw k (hwb k hk)).2.2⟩
  sb := h.sb
  sh := h.sh
  st := fun k hk => ⟨(h.st k hk).1, Nat.lt_of_lt_of_le (h.st k hk).2 hs⟩
/-- A reader put together: its rows lie in w1, its cells in w2, which is w1 but for block g. -/
theorem RdAt.make {w2 : World} {cs : Array Value} (hg1 : w1.heap[g]? = some (.cells cs 56 (0, 0))) (hm : ∀ k, k ≠ g → k < w1.heap.size → w2.heap[k]? = w1.heap[k]?) (hs : w1.heap.size ≤ w2.heap.size)
    (hc : w2.heap[g]? = some (.cells (cellsRd g r vw vh vb vt) 56 (0, 0))) (own : S g) (wait : Cut5 w1 vw r.wait) (body : w1.ownsRow 0 5 1 vb r.body.length (nums .u8 (ints r.body))) {U : Nat → Prop} (heads : k38.R 38 w1 0 U vh r.q.f2) (told : k53.R 53 w1 0 T vt r.told)
    (sw : ∀ k, vw.ownBlock = some k → S k ∧ k < w1.heap.size ∧ vb.ownBlock ≠ some k) (sb : ∀ k, vb.ownBlock = some k → S k) (sh : ∀ k, vh.ownBlock = some k → k < w1.heap.size → S k ∧ ¬ T k) (st : ∀ k, T k → k < w1.heap.size → S k) :
    RdAt w2 S g r vw vh vb vt (fun k => T k ∧ k < w1.heap.size) where
  cells := hc
  own := own
  wait := wait.move fun k c hk hh => hm k (fun e => by rw [e, hg1] at hh; injection hh with hh; injection hh with _ ht; cases ht) (Array.getElem?_eq_some_iff.1 hh).1
  body := by
    refine own_move body fun k hk => hm k (fun e => ?_) (own_lt body k hk)
    obtain ⟨c, hc⟩ := own_typed body k hk
    rw [e, hg1] at hc; injection hc with hc; injection hc with _ ht; cases ht
  heads := by
    obtain ⟨_, inner, ho, hr⟩ := heads
    have h1 : k38.R 38 w1 0 (fun k => vh.ownBlock = some k) vh r.q.f2 := by
      refine ⟨fun k hk => hk, inner, ho, hr.imp_ (fun x c hp => ?_)⟩
      obtain rfl := k38_openM hp
      exact k38_mkM _ _ _ _
    refine Kd.R_mono (Kd.R_move (Kd.R_bound h1) fun k hk => hm k (fun e => ?_) hk.2.2.1) (fun _ hk => hk.1)
    obtain ⟨_, _, _, q, hq, c, hc⟩ := hk
    rw [e, hg1] at hc; injection hc with hc; injection hc with _ ht
    have hE : k38.E = [] := rfl
    rw [hE, ← ht] at hq; exact absurd hq (by decide)
  told := by
    refine Kd.R_mono (Kd.R_move (Kd.R_bound told) fun k hk => hm k (fun e => ?_) hk.2.2.1) (fun _ hk => ⟨hk.1, hk.2.2.1⟩)
    obtain ⟨_, _, _, q, hq, c, hc⟩ := hk
    rw [e, hg1] at hc; injection hc with hc; injection hc with _ ht
    have hE : k53.E = [38] := rfl
    rw [hE, ← ht] at hq; exact absurd hq (by decide)
  sw := fun k hk => ⟨(sw k hk).1, Nat.lt_of_lt_of_le (sw k hk).2.1 hs, (sw k hk).2.2⟩
  sb := sb
  sh := fun k hk => by
    obtain ⟨_, inner, ho, _⟩ := heads
    have hl := own_lt ho k hk
    exact ⟨(sh k hk hl).1, fun hc => (sh k hk hl).2 hc.1⟩
  st := fun k hk => ⟨st k hk.1 hk.2, Nat.lt_of_lt_of_le hk.2 hs⟩
theorem R_typed {α : Type} {d : Kd α} {e : Nat} {base : Nat} {ok : Nat → Prop} {v : Value} {xs : List α} (h : d.R e w base ok v xs) (k : Nat) (hk : v.ownBlock = some k) : ∃ c, w.heap[k]? = some (.cells c e (0, 0)) := by
  obtain ⟨_, inner, ho, _⟩ := h
  exact own_typed ho k hk
theorem R_lt {α : Type} {d : Kd α} {e : Nat} {base : Nat} {ok : Nat → Prop} {v : Value} {xs : List α} (h : d.R e w base ok v xs) (k : Nat) (hk : v.ownBlock = some k) : k < w.heap.size := by
  obtain ⟨_, inner, ho, _⟩ := h
  exact own_lt ho k hk
/-- A block of another type is another block. -/
theorem typed_ne {k k' : Nat} {c c' : Array Value} {t t' : TypeId} {fr fr' : Nat × Nat} (h : w.heap[k]? = some (.cells c t fr)) (h' : w.heap[k']? = some (.cells c' t' fr')) (hne : t ≠ t') : k ≠ k' := by
  intro e
  rw [e, h'] at h
  injection h with h
  injection h with _ ht
  exact hne ht.symm
/-- w' is w but for block g, which holds cs now. -/
structure Chg (g : Nat) (t : TypeId) (w w' : World) (cs : Array Value) : Prop where
  frame : Frame (fun k => k = g) w w'
  same : ∀ k, k ≠ g → k < w.heap.size → w'.heap[k]? = w.heap[k]?
  heap : w'.heap[g]? = some (.cells cs t (0, 0))
theorem Chg.start {cs : Array Value} {t : TypeId} (h : w.heap[g]? = some (.cells cs t (0, 0))) : Chg g t w w cs := ⟨Frame.refl _ _, same_refl g w, h⟩
theorem Chg.put {cs : Array Value} {t : TypeId} (h : Chg g t w w1 cs) (i : Nat) (v : Value) : Chg g t w (w1.setCell ⟨g, i, none⟩ v) (cs.setIfInBounds i v) := ⟨h.frame.put i v, same_put h.same i v, heap_set h.heap i v⟩
theorem Chg.drew {cs : Array Value} {t : TypeId} (h : Chg g t w w1 cs) : Chg g t w w1.drew cs := ⟨h.frame.drew, h.same, h.heap⟩
theorem Chg.drewN {cs : Array Value} {t : TypeId} (h : Chg g t w w1 cs) (n : Nat) : Chg g t w (w1.drewN n) cs := ⟨h.frame.drewN n, h.same, h.heap⟩
theorem Chg.cast {cs cs' : Array Value} {t : TypeId} (h : Chg g t w w1 cs) (e : cs = cs') : Chg g t w w1 cs' := e ▸ h
end
end Go.Proofs.YtafhkpnmolfjeaaGreatDoor.Rq
