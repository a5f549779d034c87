/- Walk of the reader's header. -/
import Derived.Test.YtafhkpnmolfjeaaGreatDoorRq3
import Derived.Test.YtafhkpnmolfjeaaGreatDoorRqV
import Derived.Shelf.Strings.SlTrimAscii
import Derived.Deep.RegionLaw
set_option linter.unusedVariables false
set_option linter.unusedSimpArgs false
namespace Go.Proofs.YtafhkpnmolfjeaaGreatDoor.Rq
open Go.RowKit Go.Proofs.YtafhkpnmolfjeaaGreatDoorW.PrintWords Go.Proofs.YtafhkpnmolfjeaaGreatDoor.PRequestBack

def lowB (b : UInt8) : UInt8 := if 65 ≤ b.toNat ∧ b.toNat ≤ 90 then b + 32 else b
def okB (b : UInt8) : Bool := (decide (97 ≤ b.toNat) && decide (b.toNat ≤ 122)) || (decide (48 ≤ b.toNat) && decide (b.toNat ≤ 57)) || decide (b.toNat = 45)
def cutC (s : ByteArray) : List UInt8 × List UInt8 × Bool := Lib.cut s.data.toList [58]
def headEarly (s : ByteArray) : Bool := !(cutC s).2.2 || (cutC s).1.isEmpty || !visB 32 126 (str (Lib.replaceAll (cutC s).2.1 [9] [32]))
theorem trim_calls (v : List UInt8) (w : World) (hs : v.length ≤ 9223372036854775807) : Calls Tryz.prog 134 #[.string (str v), .string ⟨#[32, 9]⟩] w fun e w' => e = .returned (.string (str (Lib.trimS v [32, 9]))) ∧ Below w.heap.size w w' :=
  Any.strings_Trim_laid Tryz.lays160 (by kernel_rfl) (str v) ⟨#[32, 9]⟩ w hs (by decide) (ascii_of_all (by decide))
theorem countB_le (s : ByteArray) (hs : s.size < 4294967281) : s.size + Lib.countB s ⟨#[9]⟩ * (⟨#[32]⟩ : ByteArray).size ≤ 140737488355328 := by
  have h := Lib.countB_le ⟨#[9]⟩ (by decide) s.size s (Nat.le_refl _)
  have h1 : (⟨#[32]⟩ : ByteArray).size = 1 := rfl
  rw [h1]
  omega
theorem str_list (a : List UInt8) : (str a).toList = a := by rw [Lib.toList_data]; rfl
theorem cut_calls (s : ByteArray) (w : World) {mx : Int} (hm : w.cell? ⟨1, 0, none⟩ = some (.int .i64 mx)) (hs : s.size < 4294967281) : Calls Tryz.prog 87 #[.string s, .string ⟨#[58]⟩] w fun e w' =>
    e = .returned (.tuple #[.string (str (cutC s).1), .string (str (cutC s).2.1), .bool (cutC s).2.2]) ∧ ∃ n, w' = w.drewN n := Tryz.strings_Cut s ⟨#[58]⟩ mx w hs hm
theorem replace_calls (v : List UInt8) (w : World) {mx : Int} (hm : w.cell? ⟨1, 0, none⟩ = some (.int .i64 mx)) (hs : v.length < 4294967281) : Calls Tryz.prog 133 #[.string (str v), .string ⟨#[9]⟩, .string ⟨#[32]⟩] w fun e w' =>
    e = .returned (.string (str (Lib.replaceAll v [9] [32]))) ∧ Below w.heap.size w w' := Tryz.strings_ReplaceAll (str v) ⟨#[9]⟩ ⟨#[32]⟩ mx w hs hm (by decide) (countB_le _ hs)
theorem cutC_len (s : ByteArray) : (cutC s).1.length ≤ s.size ∧ (cutC s).2.1.length ≤ s.size := by
  have hd : s.data.toList.length = s.size := data_length s
  unfold cutC Lib.cut
  split
  · simp only [List.length_take, List.length_drop]; omega
  · simp [hd]

set_option maxRecDepth 100000 in
set_option maxHeartbeats 800000 in
theorem header_early (p : Option Addr) (s : ByteArray) (w : World) {mx : Int} (hm : w.cell? ⟨1, 0, none⟩ = some (.int .i64 mx)) (hs : s.size < 4294967281) (hb : headEarly s = true) :
    Calls Tryz.prog 106 #[.pointer p, .string s] w fun e w' => e = .returned (.bool false) ∧ Below w.heap.size w w' := by
  have HM := Aside0.mk hm
  clear hm
  go_enter Tryz.func106, Tryz.ntmps106
  go_wp2_with fail
  refine (cut_calls s w HM.out hs).mono ?_
  rintro e w1 ⟨rfl, q, rfl⟩
  have HB := pw_below_drewN (Below.refl w.heap.size w) q
  have HM1 := Aside0.mk (pw_cell_below HB HM.out)
  have hl := (cutC_len s).2
  clear HM
  revert hb HB HM1 hl
  simp only [headEarly]
  generalize (w.drewN q) = w1
  obtain ⟨a, v, ok⟩ := cutC s
  intro hb HB HM1 hl
  have HB := Aside0.mk HB
  have e0 := str_list a
  simp only at hb hl ⊢
  cases ok
  · go_wp2_with fail
    go_ret
    exact ⟨rfl, HB.out⟩
  cases a with
  | nil =>
    go_wp2_with fail
    go_ret
    exact ⟨rfl, HB.out⟩
  | cons x xs =>
    have hv : visB 32 126 (str (Lib.replaceAll v [9] [32])) = false := by simpa using hb
    go_wp2_with fail
    refine (replace_calls v _ HM1.out (by omega)).mono ?_
    rintro e w2 ⟨rfl, hB2⟩
    have HB2 := Aside0.mk (HB.out.trans (hB2.mono HB.out.size))
    clear hB2
    go_wp2_with fail
    refine (visible_calls 32 126 32 126 rfl rfl (by decide) (by decide) _ _).mono ?_
    rintro e w3 ⟨rfl, hB3⟩
    have HB3 := Aside0.mk (HB2.out.trans (hB3.mono HB2.out.size))
    clear hB3
    go_wp2_with fail
    go_ret
    exact ⟨rfl, HB3.out⟩

/-- The row of a header's name in the middle of the loop: k bytes are lowered. -/
structure LowAt (w0 : World) (B N : Nat) (a : List UInt8) (k : Nat) (w : World) : Prop where
  row : ∃ C, w.heap[B]? = some (.cells C 5 (N, N + 1)) ∧ C.size = N ∧ ∀ (j : Nat) (x : UInt8), a[j]? = some x → C[j]? = some (Value.int .u8 (if j < k then lowB x else x).toNat)
  os : w.os = w0.os
  tape : w.tape = w0.tape
  output : w.output = w0.output
  size : w.heap.size = w0.heap.size
  block : ∀ b, b ≠ B → w.heap[b]? = w0.heap[b]?
theorem lowB_up {x : UInt8} (h : 65 ≤ x.toNat ∧ x.toNat ≤ 90) : (lowB x).toNat = x.toNat + 32 := by
  unfold lowB
  rw [if_pos h, UInt8.toNat_add]
  have : (32 : UInt8).toNat = 32 := rfl
  omega
theorem lowB_id {x : UInt8} (h : ¬ (65 ≤ x.toNat ∧ x.toNat ≤ 90)) : lowB x = x := by unfold lowB; rw [if_neg h]
theorem LowAt.up {w0 w : World} {B N : Nat} {a : List UInt8} {k : Nat} {x : UInt8} (h : LowAt w0 B N a k w) (hx : a[k]? = some x) (hu : 65 ≤ x.toNat ∧ x.toNat ≤ 90) : LowAt w0 B N a (k + 1) (w.setCell ⟨B, k, none⟩ (.int .u8 ((x.toNat : Int) + 32))) := by
  obtain ⟨C, hC, hs, hc⟩ := h.row
  have hset : (w.setCell ⟨B, k, none⟩ (.int .u8 ((x.toNat : Int) + 32))).heap[B]? = some (.cells (C.setIfInBounds k (.int .u8 ((x.toNat : Int) + 32))) 5 (N, N + 1)) := by
    obtain ⟨hlt, hk⟩ := Array.getElem?_eq_some_iff.1 hC
    show (w.heap.modify B _)[B]? = _
    rw [Array.getElem?_eq_getElem (by rw [Array.size_modify]; exact hlt), Array.getElem_modify_self, hk]
    rfl
  have hkC : k < C.size := by
    have := hc k x hx
    exact (Array.getElem?_eq_some_iff.1 this).1
  refine ⟨⟨_, hset, by simp [hs], fun j y hy => ?_⟩, h.os, h.tape, h.output, by simpa using h.size, fun b hb => (Below.heap_setCell _ _ _ b hb).trans (h.block b hb)⟩
  by_cases hj : j = k
  · subst hj
    rw [hx] at hy; injection hy with hy; subst hy
    rw [Array.getElem?_setIfInBounds_self_of_lt hkC, if_pos (by omega), lowB_up hu]
    simp
  · rw [Array.getElem?_setIfInBounds_ne (Ne.symm hj), hc j y hy]
    by_cases hl : j < k
    · rw [if_pos hl, if_pos (by omega)]
    · rw [if_neg hl, if_neg (by omega)]
theorem LowAt.same {w0 w : World} {B N : Nat} {a : List UInt8} {k : Nat} {x : UInt8} (h : LowAt w0 B N a k w) (hx : a[k]? = some x) (hu : ¬ (65 ≤ x.toNat ∧ x.toNat ≤ 90)) : LowAt w0 B N a (k + 1) w := by
  obtain ⟨C, hC, hs, hc⟩ := h.row
  refine ⟨⟨C, hC, hs, fun j y hy => ?_⟩, h.os, h.tape, h.output, h.size, h.block⟩
  by_cases hj : j = k
  · subst hj
    rw [hx] at hy; injection hy with hy; subst hy
    rw [hc j x hx, if_neg (by omega), if_pos (by omega), lowB_id hu]
  · rw [hc j y hy]
    by_cases hl : j < k
    · rw [if_pos hl, if_pos (by omega)]
    · rw [if_neg hl, if_neg (by omega)]
theorem ok_snoc {a : List UInt8} {k : Nat} {x : UInt8} (h : ∀ (j : Nat) (y : UInt8), j < k → a[j]? = some y → okB (lowB y) = true) (hx : a[k]? = some x) (ho : okB (lowB x) = true) : ∀ (j : Nat) (y : UInt8), j < k + 1 → a[j]? = some y → okB (lowB y) = true := by
  intro j y hj hy
  by_cases hjk : j = k
  · subst hjk; rw [hx] at hy; injection hy with hy; subst hy; exact ho
  · exact h j y (by omega) hy
theorem all_of {a : List UInt8} {k : Nat} (h : ∀ (j : Nat) (y : UInt8), j < k → a[j]? = some y → okB (lowB y) = true) (hk : a.length ≤ k) : (a.map lowB).all okB = true := by
  rw [List.all_eq_true]
  intro y hy
  obtain ⟨x, hx, rfl⟩ := List.mem_map.1 hy
  obtain ⟨j, hj, rfl⟩ := List.getElem_of_mem hx
  exact h j _ (by omega) (List.getElem?_eq_getElem hj)
theorem LowAt.below {w w3 w0 wr : World} {B N : Nat} {a : List UInt8} {k : Nat} (h : LowAt w0 B N a k wr) (h3 : Below w.heap.size w w3) (hB : w3.heap.size = B) (hold : ∀ j, j < B → w0.heap[j]? = w3.heap[j]?) (hsz : w0.heap.size = B + 1) (h1 : w0.os = w3.os) (h2 : w0.tape = w3.tape) (h4 : w0.output = w3.output) : Below w.heap.size w wr :=
  ⟨h.os.trans (h1.trans h3.os), h.tape.trans (h2.trans h3.tape), h.output.trans (h4.trans h3.output), by have := h3.size; rw [h.size]; omega, fun j hj => by
    have := h3.size
    exact (h.block j (by omega)).trans ((hold j (by omega)).trans (h3.block j hj))⟩
/-- What the row reads as, when all of it is lowered. -/
theorem LowAt.text {w0 wr W : World} {B N : Nat} {a : List UInt8} {k : Nat} (h : LowAt w0 B N a k wr) (hk : a.length ≤ k) (hb : Below wr.heap.size wr W) (cap : Nat) : (convert 40 9 (.slice (some ⟨B, 0, none⟩) a.length cap)).run Tryz.prog W = .ok (.string (str (a.map lowB))) W := by
  obtain ⟨C, hC, hs, hc⟩ := h.row
  rw [← strOfNums_ints]
  refine run_convert_bytes_arg W 40 5 Tryz.underlying40 Tryz.underlying5 B 0 a.length cap (ints (a.map lowB)) (by simp [ints]) (fun i hi => ?_) 9 Tryz.underlying9
  refine pw_cell_below hb ?_
  have h1 := hc i _ (List.getElem?_eq_getElem hi)
  rw [if_pos (by omega)] at h1
  rw [getD_ints]
  simp [World.cell?, hC, h1, List.getD_eq_getElem?_getD, List.getElem?_eq_getElem hi]
theorem not_all {a : List UInt8} {k : Nat} {x : UInt8} (hx : a[k]? = some x) (ho : okB (lowB x) = false) : ¬ (a.map lowB).all okB = true := by
  intro h
  have := List.all_eq_true.1 h (lowB x) (List.mem_map.2 ⟨x, List.mem_of_getElem? hx, rfl⟩)
  rw [ho] at this; cases this
theorem info38h : (Tryz.prog.info? 38).map (fun i => (i.zero, i.size, i.bytes)) = some (some (.agg #[.string ⟨#[]⟩, .string ⟨#[]⟩]), 2, 32) := by kernel_rfl
theorem grown_heads {W w1 : World} {g : Nat} {cs : Array Value} {T : Nat → Prop} {vh : Value} {l : List S38} (hc : W.heap[g]? = some (.cells cs 56 (0, 0))) (hR : k38.R 38 W 0 T vh l) (hg : W.grownBy w1 vh.ownBlock) : w1.heap[g]? = some (.cells cs 56 (0, 0)) := by
  refine (hg.block g (Array.getElem?_eq_some_iff.1 hc).1 (fun e => ?_)).trans hc
  obtain ⟨c, h⟩ := R_typed hR g e.symm
  exact typed_ne h hc (by decide) rfl
theorem RdAt.pushHead {w5 w6 : World} {S : Nat → Prop} {g : Nat} {r : Rd} {vw vh vb vt v1 : Value} {T : Nat → Prop} (h : RdAt w5 S g r vw vh vb vt T) (hU : ∀ k, w5.heap.size ≤ k → S k) (hg : w5.grownBy w6 vh.ownBlock) (p : S38) (hR : k38.R 38 w6 0 (fun k => vh.ownBlock = some k ∨ w5.heap.size ≤ k) v1 (r.q.f2 ++ [p])) :
    Frame S w5 (w6.setCell ⟨g, 5, none⟩ v1) ∧ RdAt (w6.setCell ⟨g, 5, none⟩ v1) S g { r with q := { r.q with f2 := r.q.f2 ++ [p] } } vw v1 vb vt (fun k => T k ∧ k < w6.heap.size) := by
  have hg6 := grown_heads h.cells h.heads hg
  have hne : ∀ (k : Nat) (c : Array Value) (t : TypeId), t ≠ 38 → w5.heap[k]? = some (.cells c t (0, 0)) → some k ≠ vh.ownBlock := by
    intro k c t ht hk e
    obtain ⟨c', h'⟩ := R_typed h.heads k e.symm
    exact typed_ne h' hk (Ne.symm ht) rfl
  refine ⟨(Frame.of_grown hg (fun k e => (h.sh k e).1)).putIn h.own 5 _, ?_⟩
  refine RdAt.make hg6 (same_put (same_refl g w6) 5 _) (by simp) ?_ h.own (h.wait.move fun k c _ hk => hg.block k (Array.getElem?_eq_some_iff.1 hk).1 (hne k c 5 (by decide) hk)) (own_other h.body hg ?_) (U := fun k => vh.ownBlock = some k ∨ w5.heap.size ≤ k) hR (Kd.R_grown h.told hg fun k hk e => (h.sh k e.symm).2 hk) ?_ h.sb ?_ ?_
  · rw [heap_set hg6 5 _]; simp [cellsRd]
  · obtain ⟨_, inner, ho, _⟩ := h.heads
    exact own_type_ne h.body ho (by decide)
  · intro k hk
    have := h.sw k hk
    exact ⟨this.1, Nat.lt_of_lt_of_le this.2.1 hg.size, this.2.2⟩
  · intro k hk _
    rcases hR.1 k hk with h1 | h1
    · exact h.sh k h1
    · exact ⟨hU k h1, fun hT => by have := (h.st k hT).2; omega⟩
  · intro k hk _
    exact (h.st k hk).1
def HdPost (w : World) (S : Nat → Prop) (g : Nat) (r : Rd) (vw vh vb vt : Value) (T : Nat → Prop) (a v : List UInt8) (e : Ending) (w' : World) : Prop :=
  if (a.map lowB).all okB = true then e = .returned (.bool true) ∧ Frame S w w' ∧ ∃ vh1 T1, RdAt w' S g { r with q := { r.q with f2 := r.q.f2 ++ [⟨str (a.map lowB), str (Lib.trimS v [32, 9])⟩] } } vw vh1 vb vt T1
  else e = .returned (.bool false) ∧ Below w.heap.size w w'
set_option maxRecDepth 100000 in
set_option maxHeartbeats 1600000 in
theorem header_main {w : World} {S : Nat → Prop} {g : Nat} {r : Rd} {vw vh vb vt : Value} {T : Nat → Prop} (h : RdAt w S g r vw vh vb vt T) (hU : ∀ k, w.heap.size ≤ k → S k) (s : ByteArray) {mx : Int} (hm : w.cell? ⟨1, 0, none⟩ = some (.int .i64 mx)) (hs : s.size < 4294967281) (hl2 : r.q.f2.length < 1000000000) (a v : List UInt8) (hcut : cutC s = (a, v, true)) (ha : a ≠ []) (hv : visB 32 126 (str (Lib.replaceAll v [9] [32])) = true) :
    Calls Tryz.prog 106 #[.pointer (some ⟨g, 0, none⟩), .string s] w (HdPost w S g r vw vh vb vt T a v) := by
  have HM := Aside0.mk hm
  have H := Aside0.mk h
  have HU := Aside0.mk hU
  have HC := Aside0.mk hcut
  clear hm h hU hcut
  go_enter Tryz.func106, Tryz.ntmps106
  go_wp2_with fail
  refine (cut_calls s w HM.out hs).mono ?_
  rintro e w1 ⟨rfl, q, rfl⟩
  have HB := pw_below_drewN (Below.refl w.heap.size w) q
  have HM1 := Aside0.mk (pw_cell_below HB HM.out)
  have hl := cutC_len s
  rw [HC.out] at hl ⊢
  clear HM
  revert HB HM1 hl
  generalize (w.drewN q) = w1
  intro HB HM1 hl
  have HB := Aside0.mk HB
  have e0 := str_list a
  simp only at hl ⊢
  obtain ⟨hl1, hl⟩ := hl
  have ha2 : a.isEmpty = false := by cases a <;> simp_all
  · skip
    go_wp2_with fail
    refine (replace_calls v _ HM1.out (by omega)).mono ?_
    rintro e w2 ⟨rfl, hB2⟩
    have HB2 := Aside0.mk (HB.out.trans (hB2.mono HB.out.size))
    clear hB2
    go_wp2_with fail
    refine (visible_calls 32 126 32 126 rfl rfl (by decide) (by decide) _ _).mono ?_
    rintro e w3 ⟨rfl, hB3⟩
    have HB3 := Aside0.mk (HB2.out.trans (hB3.mono HB2.out.size))
    clear hB3 HB2 HB HM1 e0
    have kb : ∀ W, (convert 9 40 (.string (str a))).run Tryz.prog W = .ok (.slice (some ⟨W.heap.size, 0, none⟩) a.length (grownCap W a.length 0 5)) (Lib.bytesWorld W 5 (str a)) := fun W => print_bytes (P := Tryz.prog) 9 40 5 Tryz.underlying9 Tryz.underlying40 Tryz.underlying5 (str a) W
    clear HC
    go_wp2_with fail
    have hrow := Lib.bytesWorld_at_new w3 5 (str a)
    have hold := fun j hj => Lib.bytesWorld_at_old w3 5 (str a) j hj
    have hsz := Lib.bytesWorld_size w3 5 (str a)
    have hos : (Lib.bytesWorld w3 5 (str a)).os = w3.os ∧ (Lib.bytesWorld w3 5 (str a)).tape = w3.tape ∧ (Lib.bytesWorld w3 5 (str a)).output = w3.output := ⟨rfl, rfl, rfl⟩
    have hcells : ∀ (j : Nat) (x : UInt8), a[j]? = some x → (Lib.bytesCells w3 5 (str a))[j]? = some (Value.int .u8 x.toNat) := by
      intro j x hx
      have hj := (List.getElem?_eq_some_iff.1 hx).1
      have hs' : j < (str a).data.size := hj
      unfold Lib.bytesCells
      rw [Array.getElem?_append_left (by simpa using hs'), Array.getElem?_map]
      have h2 : (str a).data[j]? = a[j]? := by simp [str]
      rw [h2, hx]; rfl
    clear kb
    revert hrow hold hsz hos hcells
    generalize Lib.bytesWorld w3 5 (str a) = W4
    generalize grownCap w3 a.length 0 5 = cap
    generalize Lib.bytesCells w3 5 (str a) = C0
    generalize hB : w3.heap.size = B
    intro hrow hold hsz hos hcells
    have L0 : LowAt W4 B C0.size a 0 W4 := ⟨⟨C0, hrow, rfl, fun j x hx => by rw [if_neg (by omega)]; exact hcells j x hx⟩, rfl, rfl, rfl, rfl, fun _ _ => rfl⟩
    have Z := Aside0.mk (And.intro HB3.out (And.intro hB (And.intro hrow (And.intro hold (And.intro hsz hos)))))
    clear hrow hold hsz hos hcells HB3 hB
    have hlen : a.length ≤ 9223372036854775807 := by omega
    go_loopw [33] (fun i wr => ∃ k : Nat, k ≤ a.length ∧ i = .int .i64 k ∧ LowAt W4 B C0.size a k wr ∧ (∀ (j : Nat) (x : UInt8), j < k → a[j]? = some x → okB (lowB x) = true)) (fun i _ => a.length - (intOf i).toNat)
    case atStart => exact ⟨0, Nat.zero_le _, rfl, L0, fun j x hj => absurd hj (by omega)⟩
    case round =>
      obtain ⟨k, hk, rfl, hL, hok⟩ := hrel
      by_cases hlt : k < a.length
      · have hx : a[k]? = some a[k] := List.getElem?_eq_getElem hlt
        generalize a[k] = x at hx
        obtain ⟨C, hC, hCs, hCe⟩ := hL.row
        have kc : wr.cell? ⟨B, k, none⟩ = some (.int .u8 x.toNat) := by
          have := hCe k x hx
          rw [if_neg (by omega)] at this
          simp [World.cell?, hC, this]
        have xr := x.toNat_lt
        have LL := Aside0.mk hL
        have OK := Aside0.mk hok
        have HX := Aside0.mk hx
        clear hL hok hx hC hCs hCe L0
        have fz : wr.frozen? ⟨B, k, none⟩ = false := by
          obtain ⟨C, hC, hCs, hCe⟩ := LL.out.row
          have hkC := (Array.getElem?_eq_some_iff.1 (hCe k x HX.out)).1
          simp [World.frozen?, hC]; omega
        by_cases hu : 65 ≤ x.toNat ∧ x.toNat ≤ 90
        · have HU2 := Aside0.mk hu
          obtain ⟨hu1, hu2⟩ := hu
          go_wp2_with fail
          refine ⟨⟨k + 1, by omega, by go_num, LL.out.up HX.out HU2.out, ok_snoc OK.out HX.out ?_⟩, by simp [intOf]; omega⟩
          have := lowB_up HU2.out
          simp [okB, this]; omega
        · have HU2 := Aside0.mk hu
          cases ho : okB x
          · have HO := Aside0.mk ho
            simp only [okB, Bool.or_eq_false_iff, Bool.and_eq_false_iff, decide_eq_false_iff_not] at ho
            have hn45 : ((x.toNat : Int) != 45) = true := by rw [bne_iff_ne]; omega
            go_wp2_with fail
            all_goals go_ret
            all_goals
              show HdPost w S g r vw vh vb vt T a v _ wr
              unfold HdPost
              rw [if_neg (not_all HX.out (by rw [lowB_id HU2.out]; exact HO.out))]
              exact ⟨rfl, LL.out.below Z.out.1 Z.out.2.1 Z.out.2.2.2.1 Z.out.2.2.2.2.1 Z.out.2.2.2.2.2.1 Z.out.2.2.2.2.2.2.1 Z.out.2.2.2.2.2.2.2⟩
          · have HO := Aside0.mk ho
            simp only [okB, Bool.or_eq_true, Bool.and_eq_true, decide_eq_true_eq] at ho
            go_wp2_with fail
            all_goals exact ⟨⟨k + 1, by omega, by go_num, LL.out.same HX.out HU2.out, ok_snoc OK.out HX.out (by rw [lowB_id HU2.out]; exact HO.out)⟩, by simp [intOf]; omega⟩
      · have hall := all_of hok (by omega)
        have HBr := hL.below Z.out.1 Z.out.2.1 Z.out.2.2.2.1 Z.out.2.2.2.2.1 Z.out.2.2.2.2.2.1 Z.out.2.2.2.2.2.2.1 Z.out.2.2.2.2.2.2.2
        have R := Aside0.mk (H.out.move HBr.size (fun k _ hk => HBr.block k hk))
        obtain ⟨Ah, ch, hvh⟩ := R_slice R.out.heads
        subst hvh
        have tx := fun W hW => hL.text (W := W) (by omega) hW cap
        have TX := Aside0.mk tx
        have cv := tx wr (Below.refl _ _)
        have cvd := tx wr.drew (below_drew (Below.refl _ _))
        have k5 := cell_of_heap R.out.cells 5 (.slice Ah r.q.f2.length ch) rfl
        have f5 := frozen_of_heap R.out.cells 5
        have Y := Aside0.mk (And.intro hall (And.intro HBr hL))
        clear hall HBr hL hok tx L0
        go_wp2_with fail
        go_region_law (first
          | (refine Kd.R_append_step k38 (w0 := w5) 0 rfl (.tmp 77) (.tmp 83) 22 38 _ 32 rfl Tryz.underlying22 info38h rfl (by decide) (by decide) (.slice Ah r.q.f2.length ch) r.q.f2 ⟨str (a.map lowB), str (Lib.trimS v [32, 9])⟩ [.string (str (a.map lowB)), .string (str (Lib.trimS v [32, 9]))] (fun k => (Value.slice Ah r.q.f2.length ch).ownBlock = some k ∨ w5.heap.size ≤ k) (fun _ => False) (by simp [Act.eval, Act.put]) (by simp [Act.eval, Act.put]) (k38_mkM _ _ _ _) (fun _ h => h.elim) (fun k hk => Or.inr (by simpa using hk)) (Kd.R_mono hR5.out (fun _ hk => Or.inl hk)) (Below.refl _ _) (Nat.zero_le _) (by omega) ?_
             intro v1 w6 hR hB6 hg hat
             obtain ⟨A1, c1, hv1⟩ := R_slice hR
             rw [show (r.q.f2 ++ [(⟨str (a.map lowB), str (Lib.trimS v [32, 9])⟩ : S38)]).length = r.q.f2.length + 1 from by simp] at hv1
             subst hv1
             have hg6 := grown_heads R5.out.cells hR5.out hg
             have q5 := cell_of_heap hg6 5 (.slice Ah r.q.f2.length ch) rfl
             have p5 := frozen_of_heap hg6 5
             have X := Aside0.mk (And.intro hR (And.intro hg hg6))
             clear hR hB6 hg hat hg6)
          | (go_simp
             go_at_call 134
             refine (trim_calls v _ (by omega)).mono ?_
             rintro e w5 ⟨rfl, hB5⟩
             have hB5' := (Below.refl wr.heap.size wr).trans (⟨hB5.os, hB5.tape, hB5.output, hB5.size, hB5.block⟩ : Below wr.heap.size wr w5)
             have B5 := Aside0.mk hB5'
             have R5 := Aside0.mk (R.out.move hB5'.size (fun k _ hk => hB5'.block k hk))
             have hR5 := Aside0.mk R5.out.heads
             have q5 := cell_of_heap R5.out.cells 5 (.slice Ah r.q.f2.length ch) rfl
             have cv5 := TX.out w5 hB5'
             have hlt5 := R5.out.lt
             clear hB5 hB5'))
        all_goals
          have PH := Aside0.mk (RdAt.pushHead R5.out (fun k hk => HU.out k (by have := Y.out.2.1.size; have := B5.out.size; omega)) X.out.2.1 ⟨str (a.map lowB), str (Lib.trimS v [32, 9])⟩ X.out.1)
          revert PH
          generalize (w6.setCell ⟨g, 5, none⟩ (.slice A1 (r.q.f2.length + 1) c1)) = w7
          intro PH
          clear q5 p5 cv cvd cv5 k5 f5
          go_wp2_with fail
          go_ret
          show HdPost w S g r vw (.slice Ah r.q.f2.length ch) vb vt T a v _ w7
          unfold HdPost
          rw [if_pos Y.out.1]
          exact ⟨rfl, ((Frame.of_below Y.out.2.1).trans (Frame.of_below B5.out)).trans PH.out.1, _, _, PH.out.2⟩
end Go.Proofs.YtafhkpnmolfjeaaGreatDoor.Rq
