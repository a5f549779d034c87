/- The frame of the Request laws: the world of the witness, what the listed variables give. · The frame of the Request laws: what the row's first world gives the walks; RequestNobody. · The frame of the Request laws: an argument of bytes. -/
import Derived.Test.YtafhkpnmolfjeaaGreatDoorCards
import Derived.Test.YtafhkpnmolfjeaaGreatDoorTie
import Derived.WalkKit
import Derived.ProofKit
import Derived.OpenShut
import Derived.ChangeSlices
import Derived.Carry
import Derived.Deep.DeepHandedRow
import Derived.Deep.DeepWitnessRowRef
import Derived.Lib.LaidIn
import Derived.Stop.LaidErr
import Derived.Shelf.Vars
import Derived.Test.YtafhkpnmolfjeaaGreatDoorMd
/-! ## RqP: The frame of the Request laws: the world of the witness, what the listed variables give. -/
set_option linter.unusedVariables false
namespace Go.Proofs.YtafhkpnmolfjeaaGreatDoor.Rq
open Go.ChangeShapes Go.WideShapes Go.ChangeAt Go.RowKit

theorem own : ownKnob Tryz.prog.godebug = none := by kernel_rfl
theorem laidOut' : laidOutB Tryz.prog = true := by kernel_rfl
theorem cells5' : Tryz.prog.cellsOf 5 = 1 := by kernel_rfl
def reqLaid : List (String × DataW Unit) := Rows.requestNobodyRow.laid
def db32 : List Int := [0, 1, 28, 2, 29, 14, 24, 3, 30, 22, 20, 15, 25, 17, 4, 8, 31, 27, 13, 23, 21, 19, 16, 7, 26, 12, 18, 6, 11, 5, 10, 9]
def db64 : List Int := [0, 1, 56, 2, 57, 49, 28, 3, 61, 58, 42, 50, 38, 29, 17, 4, 62, 47, 59, 36, 45, 43, 51, 22, 53, 39, 33, 30, 24, 18, 12, 5, 63, 55, 48, 27, 60, 41, 37, 16, 46, 35, 44, 21, 52, 32, 23, 11, 54, 26, 40, 15, 34, 20, 31, 10, 25, 14, 19, 9, 13, 8, 7, 6]
def p10 : List Int := [1, 10, 100, 1000, 10000, 100000, 1000000, 10000000, 100000000, 1000000000, 10000000000, 100000000000, 1000000000000, 10000000000000, 100000000000000, 1000000000000000, 10000000000000000, 100000000000000000, 1000000000000000000, 10000000000000000000]
def acc : List Int := [128, 191, 160, 191, 128, 159, 144, 191, 128, 143, 0, 0, 0, 0, 0, 0, 0, 0, 0, 0, 0, 0, 0, 0, 0, 0, 0, 0, 0, 0, 0, 0]
def tRange : ByteArray := ⟨#[118, 97, 108, 117, 101, 32, 111, 117, 116, 32, 111, 102, 32, 114, 97, 110, 103, 101]⟩
def tSyntax : ByteArray := ⟨#[105, 110, 118, 97, 108, 105, 100, 32, 115, 121, 110, 116, 97, 120]⟩
/-- A WORLD FOR THE WITNESS: the settled one, two errors' structs, the variables holding what their initialisers lay. -/
noncomputable def laidWorld (os : Os) : World :=
  let N := (World.settled Tryz.prog os).heap.size
  let w0 := World.holding Tryz.prog os ⟨#[.cells #[.string tSyntax] 258, .cells #[.string tRange] 258], #[], []⟩
  let put (h : Array Obj) (g : Nat) (cs : Array Value) : Array Obj := h.modify g fun
    | .cells _ t frozen => .cells cs t frozen
    | o => o
  let h0 := put (put w0.heap 5 #[.iface 256 (.pointer (some ⟨N, 0, none⟩))]) 6 #[.iface 256 (.pointer (some ⟨N + 1, 0, none⟩))]
  let h1 := put h0 2 (p10.map fun z => Value.int .u64 z).toArray
  let h2 := put h1 3 (Go.Pinned.utf8FirstZ.map fun (z : Nat) => Value.int .u8 (z : Int)).toArray
  let h3 := put h2 4 (acc.map fun z => Value.int .u8 z).toArray
  let h4 := put h3 7 (db32.map fun z => Value.int .u8 z).toArray
  let h5 := put h4 8 (db64.map fun z => Value.int .u8 z).toArray
  { w0 with heap := h5 }
theorem laid_met (os : Os) (args : Array Value) : laidMet Tryz.prog reqLaid ((laidWorld os).forCall (fun _ _ => 0) ⟨#[], args, []⟩).memory :=
  laidMet_of_run3 8 (by kernel_rfl) (by kernel_rfl) (by kernel_rfl)
theorem star : "*" ++ "errors.errorString" = "*errors.errorString" := by decide
theorem row256 (u : TypeId) (h : Tryz.prog.typeName? 3 u = some "*errors.errorString") : u = 256 :=
  typeName_ptr_named (nm := "errors.errorString") (by rw [star]; kernel_rfl) (by kernel_rfl) (by decide) u (by rw [star]; exact h)
end Go.Proofs.YtafhkpnmolfjeaaGreatDoor.Rq

/-! ## RqG: The frame of the Request laws: what the row's first world gives the walks; RequestNobody. -/
set_option linter.unusedVariables false
namespace Go.Proofs.YtafhkpnmolfjeaaGreatDoor.Rq
open Go.ChangeShapes Go.WideShapes Go.ChangeAt Go.RowKit

/-- What the row's first world gives the walks. -/
theorem glob_of {W : World} (hL : laidMetH Tryz.prog reqLaid W) (hs : W.ShapedOpen Tryz.prog) : Glob W ∧ 9 ≤ W.heap.size := by
  have hL' : laidMet Tryz.prog reqLaid W := hL
  obtain ⟨m, hm⟩ := cell_of_shapedOpen_int (k := .i64) (g := 1) (t := 3) (zero := #[.int .i64 0]) hs (of_decide_eq_true (by kernel_rfl)) (by kernel_rfl) rfl (by kernel_rfl) (by kernel_rfl) Tryz.underlying3
  obtain ⟨a0, t0, hv0, _⟩ := laid_sentinel (g := 6) hL'.tail.tail.tail.tail (by kernel_rfl) (by kernel_rfl) Tryz.underlying79 row256 Tryz.underlying256 Tryz.underlying258 rfl rfl Tryz.underlying9 (by kernel_rfl) (by kernel_rfl)
  obtain ⟨a1, t1, hv1, _⟩ := laid_sentinel (g := 5) hL'.tail.tail.tail.tail.tail (by kernel_rfl) (by kernel_rfl) Tryz.underlying79 row256 Tryz.underlying256 Tryz.underlying258 rfl rfl Tryz.underlying9 (by kernel_rfl) (by kernel_rfl)
  refine ⟨⟨⟨m, hm⟩, ⟨_, _, World.var?_cell (by kernel_rfl) hv1 0⟩, ⟨_, _, World.var?_cell (by kernel_rfl) hv0 0⟩⟩, ?_⟩
  obtain ⟨cs, hh, _⟩ := hs.1 8 (Array.replicate 64 (.int .u8 0)) 255 (of_decide_eq_true (by kernel_rfl)) (by kernel_rfl)
  exact (Array.getElem?_eq_some_iff.1 hh).1
end Go.Proofs.YtafhkpnmolfjeaaGreatDoor.Rq

/-! ## RrE: The frame of the Request laws: an argument of bytes. -/
set_option linter.unusedVariables false
namespace Go.Proofs.YtafhkpnmolfjeaaGreatDoor.Rq
open Go.ChangeShapes Go.WideShapes Go.ChangeAt Go.RowKit Go.Proofs.YtafhkpnmolfjeaaGreatDoorW.PrintWords

theorem wf_u8 {x : Int} (h : (Lit.int .u8 x).wf = true) : ((UInt8.ofNat x.toNat).toNat : Int) = x := by
  have h' : 0 ≤ x ∧ x < 256 := by
    simp only [Lit.wf, Bool.and_eq_true, decide_eq_true_eq] at h
    have h1 : IntKind.u8.min = 0 := rfl
    have h2 : IntKind.u8.max = 255 := rfl
    omega
  rw [UInt8.toNat_ofNat']
  omega
theorem ints_of_wf : ∀ (l : List Int), (∀ x ∈ l, (Lit.int .u8 x).wf = true) → ∃ bs : List UInt8, l = ints bs
  | [], _ => ⟨[], rfl⟩
  | x :: l, h => by
    obtain ⟨bs, hb⟩ := ints_of_wf l (fun y hy => h y (List.mem_cons_of_mem _ hy))
    refine ⟨UInt8.ofNat x.toNat :: bs, ?_⟩
    simp only [ints, List.map_cons] at hb ⊢
    rw [← hb, wf_u8 (h x (List.mem_cons_self ..))]
/-- A slice of bytes that came in. -/
theorem bytes_arg {H : Type} {enc : TypeId × Value → H} {W : World} {a : Option Addr} {len cap : Nat} {d : DataW H} {p : List MemPlace} {fuel : Nat}
    (h : DataW.trod enc Tryz.prog W 0 (fun _ => true) true fuel 40 (Value.slice a len cap).cells.toList = some (d, p)) :
    ∃ bs : List UInt8, len = bs.length ∧ (Kd.int .u8).C W a bs.length (ints bs) ∧ bs.length ≤ cap ∧ (0 < bs.length → ∀ x, a = some x → x.block < W.heap.size) := by
  have hz : ∃ zs : List Int, (a = none ∧ len = 0 ∧ cap = 0 ∧ zs = []) ∨ ∃ x, a = some x ∧ len ≤ cap ∧ cap ≤ maxLen ∧ zs.length = cap ∧ (∀ i, i < zs.length → W.cell? (x.add i) = some (.int .u8 (zs.getD i 0))) ∧ ∀ n ∈ zs, (Lit.int .u8 n).wf = true := by
    rcases open_ints Tryz.underlying40 Tryz.underlying5 cells5' h with ⟨hcs, _⟩ | ⟨x, l, c, zs, hcs, _, hl, hm, hz, _, hcell, hwz⟩
    · simp [Value.cells] at hcs
      obtain ⟨rfl, rfl, rfl⟩ := hcs
      exact ⟨[], .inl ⟨rfl, rfl, rfl, rfl⟩⟩
    · simp [Value.cells] at hcs
      obtain ⟨rfl, rfl, rfl⟩ := hcs
      exact ⟨zs, .inr ⟨_, rfl, hl, hm, by simpa using hz, hcell, hwz⟩⟩
  obtain ⟨zs, hz⟩ := hz
  obtain ⟨l, rfl, hr, hm, hw, hc⟩ := ReadsInt.ofRowC hz
  obtain ⟨bs, rfl⟩ := ints_of_wf l hw
  rw [ints_length] at hr hc ⊢
  refine ⟨bs, rfl, Kd.C_of_reads (d := (0 : Int)) (h1 := fun _ => rfl) hr, hc, fun h0 x hx => ?_⟩
  obtain ⟨ad, e, hcell⟩ := hr.2.2 h0
  rw [hx] at e
  injection e with e
  subst e
  have := World.block_lt_of_cell? W _ (hcell 0 h0)
  rwa [show (x.add 0) = x from by simp [Addr.add]] at this
end Go.Proofs.YtafhkpnmolfjeaaGreatDoor.Rq
