/- The chapter's examples: what the reader does with them. -/
import Derived.Test.YtafhkpnmolfjeaaGreatDoorRqL
set_option linter.unusedVariables false
set_option linter.unusedSimpArgs false
namespace Go.Proofs.YtafhkpnmolfjeaaGreatDoor.Rq
open Go.RowKit Go.Proofs.YtafhkpnmolfjeaaGreatDoorW.PrintWords Go.Proofs.YtafhkpnmolfjeaaGreatDoor.PRequestBack

def tGet : ByteArray := ⟨#[71, 69, 84]⟩
def tSlash : ByteArray := ⟨#[47]⟩
def line1 : List UInt8 := [71, 69, 84, 32, 47, 32, 72, 84, 84, 80, 47, 49, 46, 49, 13, 10]
def line2 : List UInt8 := [13, 10]
def line3 : List UInt8 := [103, 101, 116, 32, 47, 32, 72, 84, 84, 80, 47, 49, 46, 49, 13, 10]
def rd1 : Rd := { wait := [], used := 16, nx := .head, q := { f0 := tGet, f1 := tSlash, f2 := [], f3 := ⟨#[]⟩, f4 := false }, head := 16, lines := 1, old := false, body := [], size := 0, told := [] }
def ev2 : S53 := ⟨{ f0 := tGet, f1 := tSlash, f2 := [], f3 := ⟨#[]⟩, f4 := true }, 0⟩
def rd2 : Rd := { Rd.new with told := [ev2] }
theorem head1 : headF 17 { Rd.new with wait := line1 } = .wait rd1 := by kernel_rfl
theorem head2 : headF 3 { rd1 with wait := line2 } = .more rd2 := by kernel_rfl
theorem head2' : headF 1 rd2 = .wait rd2 := by kernel_rfl
theorem head3 : headF 17 { Rd.new with wait := line3 } = .over [⟨z24, 400⟩] := by kernel_rfl
theorem inv1 : HInv { Rd.new with wait := line1 } := ⟨by decide, by decide, by decide, by decide, by decide, by decide, by decide, by decide, (fun p hp => by cases hp), by decide⟩
theorem inv2 : HInv { rd1 with wait := line2 } := ⟨by decide, by decide, by decide, by decide, by decide, by decide, by decide, by decide, (fun p hp => by cases hp), by decide⟩
theorem inv2' : HInv rd2 := ⟨by decide, by decide, by decide, by decide, by decide, by decide, by decide, by decide, (fun p hp => by cases hp), by decide⟩
theorem inv3 : HInv { Rd.new with wait := line3 } := ⟨by decide, by decide, by decide, by decide, by decide, by decide, by decide, by decide, (fun p hp => by cases hp), by decide⟩
theorem run1 : Run 1 { Rd.new with wait := Rd.new.wait ++ line1 } [] (some rd1) := by
  have h : Step { Rd.new with wait := line1 } (.wait rd1) := head1 ▸ Step.head { Rd.new with wait := line1 } rfl inv1
  exact Run.wait 0 h
theorem run2 : Run 2 { rd1 with wait := rd1.wait ++ line2 } [ev2] (some Rd.new) := by
  have h : Step { rd1 with wait := line2 } (.more rd2) := head2 ▸ Step.head { rd1 with wait := line2 } rfl inv2
  have h' : Step rd2 (.wait rd2) := head2' ▸ Step.head rd2 rfl inv2'
  exact Run.more h (Run.wait 0 h')
theorem run3 : Run 1 { Rd.new with wait := Rd.new.wait ++ line3 } [⟨z24, 400⟩] none := by
  have h : Step { Rd.new with wait := line3 } (.over [⟨z24, 400⟩]) := head3 ▸ Step.head { Rd.new with wait := line3 } rfl inv3
  exact Run.over 0 h
def lit (bs : List UInt8) : Array Value := (bs.map fun x => Value.int .u8 x.toNat).toArray
theorem C_lit (w : World) (bs : List UInt8) (fr : Nat × Nat) (hl : bs.length ≤ 1000000) : (Kd.int .u8).C (w.alloc (.cells (lit bs) 5 fr)) (some ⟨w.heap.size, 0, none⟩) bs.length (ints bs) := by
  refine ⟨ints_length bs, by omega, fun h0 => ⟨_, rfl, fun j p hp => ⟨[.int .u8 p], rfl, rfl, fun i u hu => ?_⟩⟩⟩
  cases i with
  | zero =>
    simp only [List.getElem?_cons_zero, Option.some.injEq] at hu
    subst hu
    have : (Kd.int .u8).sz = 1 := rfl
    rw [this, Nat.mul_one, Nat.add_zero, add_at, new_cell, Nat.zero_add]
    simp only [ints, List.getElem?_map, Option.map_eq_some_iff] at hp
    obtain ⟨a, ha, rfl⟩ := hp
    simp [lit, ha]
  | succ i => simp at hu
end Go.Proofs.YtafhkpnmolfjeaaGreatDoor.Rq
