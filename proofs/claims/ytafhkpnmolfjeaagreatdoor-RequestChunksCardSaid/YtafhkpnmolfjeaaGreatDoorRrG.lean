/- Walk of RequestChunks. -/
import Derived.Test.YtafhkpnmolfjeaaGreatDoorRrF
import Derived.Test.YtafhkpnmolfjeaaGreatDoorRrD
import Derived.Deep.DeepCutAuto
import Derived.Deep.CutRange
set_option linter.unusedVariables false
set_option linter.unusedSimpArgs false
namespace Go.Proofs.YtafhkpnmolfjeaaGreatDoor.Rq
open Go.RowKit Go.Proofs.YtafhkpnmolfjeaaGreatDoorW.PrintWords Go.Proofs.YtafhkpnmolfjeaaGreatDoor.PRequestBack

theorem rem_range (z : Int) (n : Nat) (h0 : 0 < n) (hn : n ≤ 1000000) : ∃ k : Nat, k < n ∧ wrap64 ((IntKind.u64.wrap z).tmod (n : Int)) = k := by
  obtain ⟨k, hk, e⟩ := cut_range z (n - 1) (by omega)
  refine ⟨k, by omega, ?_⟩
  rw [← e]
  congr 2
  omega
theorem and15 (a : Nat) (ha : a < 1000000) : bits BinOp.and IntKind.i64 (a : Int) 15 = ((a % 16 : Nat) : Int) := by
  have h : (BitVec.ofInt 64 (a : Int) &&& BitVec.ofInt 64 15).toNat = a % 16 := by
    rw [BitVec.toNat_and]
    have e1 : (BitVec.ofInt 64 (a : Int)).toNat = a := by
      simp
      omega
    have e2 : (BitVec.ofInt 64 15).toNat = 15 := by decide
    rw [e1, e2]
    exact Nat.and_two_pow_sub_one_eq_mod a 4
  show IntKind.i64.wrap ((BitVec.ofInt 64 (a : Int) &&& BitVec.ofInt 64 15).toNat) = _
  rw [h]
  exact IntWalk.i64_in _ (by omega)
def tDigits : ByteArray := ⟨#[48, 49, 50, 51, 52, 53, 54, 55, 56, 57, 97, 98, 99, 100, 101, 102]⟩
/-- The one event of a list, all its cells. -/
theorem one_event6 {w : World} {T : Nat → Prop} {v : Value} {x : S53} (h : k53.R 53 w 0 T v [x]) : ∃ ad c A2 c2, v = .slice (some ad) 1 c ∧ w.cell? ad = some (.string x.f0.f0) ∧ w.cell? ⟨ad.block, ad.off + 1, none⟩ = some (.string x.f0.f1) ∧ w.cell? ⟨ad.block, ad.off + 2, none⟩ = some (.slice A2 x.f0.f2.length c2) ∧ w.cell? ⟨ad.block, ad.off + 3, none⟩ = some (.string x.f0.f3) ∧ w.cell? ⟨ad.block, ad.off + 4, none⟩ = some (.bool x.f0.f4) ∧ w.cell? ⟨ad.block, ad.off + 5, none⟩ = some (.int .i64 x.f1) ∧ x.f0.f2.length ≤ c2 ∧ k38.C w A2 x.f0.f2.length x.f0.f2 := by
  obtain ⟨A, c, rfl, hle, hC⟩ := Kd.R_reads h
  obtain ⟨ad, A2, c2, rfl, h0, h1, h2, h3, h4, h5, h6, h7⟩ := at_T53 hC 0 (by omega) (by simp)
  have hr : rd_T53 [x] 0 = x := rfl
  have ha : ad.add ((0 : Int).toNat * 6) = ad := by simp [Addr.add]
  rw [hr] at h0 h1 h2 h3 h4 h5 h6 h7
  rw [ha] at h0 h1 h2 h3 h4 h5
  exact ⟨ad, c, A2, c2, rfl, h0, h1, h2, h3, h4, h5, h6, h7⟩
set_option maxRecDepth 100000 in
theorem index_digit (k : Nat) (hk : k < 16) (W : World) : (Instr.index 9 (.string ⟨#[48, 49, 50, 51, 52, 53, 54, 55, 56, 57, 97, 98, 99, 100, 101, 102]⟩) (.int .i64 (k : Int))).run Tryz.prog W = .ok (.int .u8 (dg k).toNat) W := by
  have : k = 0 ∨ k = 1 ∨ k = 2 ∨ k = 3 ∨ k = 4 ∨ k = 5 ∨ k = 6 ∨ k = 7 ∨ k = 8 ∨ k = 9 ∨ k = 10 ∨ k = 11 ∨ k = 12 ∨ k = 13 ∨ k = 14 ∨ k = 15 := by omega
  rcases this with rfl | rfl | rfl | rfl | rfl | rfl | rfl | rfl | rfl | rfl | rfl | rfl | rfl | rfl | rfl | rfl <;> rfl
theorem chunks_le (ps : List (List UInt8)) (h : ∀ p ∈ ps, p ≠ [] ∧ p.length < 65536) : (ps.flatMap chunkB).length ≤ 9 * ps.flatten.length := by
  induction ps with
  | nil => exact Nat.le_refl _
  | cons p ps ih =>
    have h1 := ih (fun x hx => h x (List.mem_cons_of_mem _ hx))
    have h2 : 0 < p.length := List.length_pos_iff.2 (h p (List.mem_cons_self ..)).1
    simp only [List.flatMap_cons, List.flatten_cons, List.length_append, chunkB, hx_length, List.length_cons, List.length_nil]
    omega
def sliceLen (v : Value) : Nat := match v with | .slice _ n _ => n | _ => 0
/-- What holds at the head of a round: s, the rest, how far. -/
structure ChAt (w wr : World) (bs : List UInt8) (s : Value) (A : Option Addr) (c : Nat) (i : Nat) (ps : List (List UInt8)) (rs : List UInt8) : Prop where
  rest : (Kd.int .u8).C w A rs.length (ints rs)
  room : rs.length ≤ c
  row : RowL wr w.heap.size s (preC ++ ps.flatMap chunkB)
  below : Below w.heap.size w wr
  bytes : ps.flatten ++ rs = bs
  good : ∀ p ∈ ps, p ≠ [] ∧ p.length < 65536
  num : i + rs.length ≤ bs.length
set_option maxRecDepth 100000 in
set_option maxHeartbeats 3200000 in
theorem chunks_calls {w : World} (hG : Glob w) (h9 : 9 ≤ w.heap.size) (A : Option Addr) (c : Nat) (bs : List UInt8) (hC : (Kd.int .u8).C w A bs.length (ints bs)) (hc : bs.length ≤ c) (hA : 0 < bs.length → ∀ a, A = some a → a.block < w.heap.size)
    (As : Option Addr) (cs : Nat) (zs : List Int) (hZ : ReadsInt w .i64 As zs.length zs) :
    Calls Tryz.prog 7 #[.slice A bs.length c, .slice As zs.length cs] w fun e w' => e = .returned (.bool true) ∧ Below w.heap.size w w' := by
  have HG := Aside0.mk hG
  have HC := Aside0.mk hC
  have HA := Aside0.mk hA
  have HZ := Aside0.mk hZ
  have hm : bs.length ≤ 9223372036854775807 := hC.2.1
  have hmz : zs.length ≤ 9223372036854775807 := hZ.2.1
  clear hG hC hA hZ
  by_cases hbig : 10000 < bs.length
  · go_enter Tryz.func7, Tryz.ntmps7
    go_wp2_with fail
    refine (lives_calls HG.out h9).mono ?_
    rintro e w1 ⟨rfl, hB⟩
    have HB := Aside0.mk hB
    clear hB
    go_wp2_with fail
    go_ret
    exact ⟨rfl, HB.out⟩
  · have cv := conv40
    go_enter Tryz.func7, Tryz.ntmps7
    go_wp2_with fail
    clear cv
    have L0 := Aside0.mk (show RowL (w.alloc (.cells (lit preC) 5 (46, 47))) w.heap.size (.slice (some ⟨w.heap.size, 0, none⟩) preC.length preC.length) preC from
      .inr ⟨w.heap.size, _, _, rfl, Nat.le_refl _, heap_alloc_new w _, fun j x hx => by simp [lit, hx]⟩)
    have B0 := Aside0.mk ((Below.refl w.heap.size w).alloc (Nat.le_refl _) (.cells (lit preC) 5 (46, 47)))
    change Aside0 (RowL (w.alloc (.cells #[.int .u8 80, .int .u8 85, .int .u8 84, .int .u8 32, .int .u8 47, .int .u8 120, .int .u8 32, .int .u8 72, .int .u8 84, .int .u8 84, .int .u8 80, .int .u8 47, .int .u8 49, .int .u8 46, .int .u8 49, .int .u8 13, .int .u8 10, .int .u8 84, .int .u8 114, .int .u8 97, .int .u8 110, .int .u8 115, .int .u8 102, .int .u8 101, .int .u8 114, .int .u8 45, .int .u8 69, .int .u8 110, .int .u8 99, .int .u8 111, .int .u8 100, .int .u8 105, .int .u8 110, .int .u8 103, .int .u8 58, .int .u8 99, .int .u8 104, .int .u8 117, .int .u8 110, .int .u8 107, .int .u8 101, .int .u8 100, .int .u8 13, .int .u8 10, .int .u8 13, .int .u8 10] 5 (46, 47))) w.heap.size (.slice (some ⟨w.heap.size, 0, none⟩) 46 46) preC) at L0
    change Aside0 (Below w.heap.size w (w.alloc (.cells #[.int .u8 80, .int .u8 85, .int .u8 84, .int .u8 32, .int .u8 47, .int .u8 120, .int .u8 32, .int .u8 72, .int .u8 84, .int .u8 84, .int .u8 80, .int .u8 47, .int .u8 49, .int .u8 46, .int .u8 49, .int .u8 13, .int .u8 10, .int .u8 84, .int .u8 114, .int .u8 97, .int .u8 110, .int .u8 115, .int .u8 102, .int .u8 101, .int .u8 114, .int .u8 45, .int .u8 69, .int .u8 110, .int .u8 99, .int .u8 111, .int .u8 100, .int .u8 105, .int .u8 110, .int .u8 103, .int .u8 58, .int .u8 99, .int .u8 104, .int .u8 117, .int .u8 110, .int .u8 107, .int .u8 101, .int .u8 100, .int .u8 13, .int .u8 10, .int .u8 13, .int .u8 10] 5 (46, 47)))) at B0
    revert L0 B0
    generalize (w.alloc (.cells #[.int .u8 80, .int .u8 85, .int .u8 84, .int .u8 32, .int .u8 47, .int .u8 120, .int .u8 32, .int .u8 72, .int .u8 84, .int .u8 84, .int .u8 80, .int .u8 47, .int .u8 49, .int .u8 46, .int .u8 49, .int .u8 13, .int .u8 10, .int .u8 84, .int .u8 114, .int .u8 97, .int .u8 110, .int .u8 115, .int .u8 102, .int .u8 101, .int .u8 114, .int .u8 45, .int .u8 69, .int .u8 110, .int .u8 99, .int .u8 111, .int .u8 100, .int .u8 105, .int .u8 110, .int .u8 103, .int .u8 58, .int .u8 99, .int .u8 104, .int .u8 117, .int .u8 110, .int .u8 107, .int .u8 101, .int .u8 100, .int .u8 13, .int .u8 10, .int .u8 13, .int .u8 10] 5 (46, 47))) = W1
    intro L0 B0
    go_loopw [6, 7, 8] (fun v6 v7 v8 wr => ∃ (A' : Option Addr) (c' i : Nat) (ps : List (List UInt8)) (rs : List UInt8), v7 = .slice A' rs.length c' ∧ v8 = .int .i64 i ∧ Aside0 (ChAt w wr bs v6 A' c' i ps rs)) (fun _ v7 _ _ => sliceLen v7)
    case atStart => exact ⟨A, c, 0, [], bs, rfl, rfl, ⟨HC.out, hc, L0.out, B0.out, rfl, (fun p hp => by cases hp), by omega⟩⟩
    case round =>
      obtain ⟨A', c', i, ps, rs, rfl, rfl, hH⟩ := hrel
      have hnum := hH.out.num
      have hb2 : (10000 : Nat) ≥ bs.length := by omega
      cases rs with
      | nil =>
        obtain ⟨xs0, hxs0⟩ : ∃ xs0, xs0 = preC ++ ps.flatMap chunkB := ⟨_, rfl⟩
        have XS := Aside0.mk hxs0
        have BY := Aside0.mk (show ps.flatten = bs from by have := hH.out.bytes; rwa [List.append_nil] at this)
        have GD := Aside0.mk hH.out.good
        have R0 := Aside0.mk (show RowL wr w.heap.size u6 xs0 from by rw [hxs0]; exact hH.out.row)
        have HB := Aside0.mk hH.out.below
        have LEN := Aside0.mk (show xs0.length ≤ 200000 from by
          have h1 := chunks_le ps hH.out.good
          rw [BY.out] at h1
          have : preC.length = 46 := rfl
          rw [hxs0, List.length_append]; omega)
        clear hxs0 hH hnum
        go_wp2_with (at_builtin; go_must (refine RowL.wpStr (s := tailC) rfl (.tmp 77) ⟨#[48, 13, 10, 13, 10]⟩ rfl (by simp [Act.eval, Act.put]) rfl R0.out (by simp [tailC]) (by have := LEN.out; simp [tailC]; omega) HB.out.size ?_))
        intro v1 w1 hR1 hG1
        obtain ⟨s1, hs1⟩ : ∃ s1, s1 = xs0 ++ tailC := ⟨_, rfl⟩
        rw [← hs1] at hR1
        have S1 := Aside0.mk (show s1 = preC ++ (ps.flatMap chunkB ++ tailC) from by rw [hs1, XS.out, List.append_assoc])
        have hl1 : s1.length ≤ 300000 := by have := LEN.out; rw [hs1, List.length_append]; simp [tailC]; omega
        clear hs1
        obtain ⟨Av, cv1, rfl⟩ := hR1.slice
        have R1 := Aside0.mk hR1
        have B1 := Aside0.mk (pw_below_grown HB.out _ HB.out.size hG1 (fun k hk => (R0.out.block k hk).1))
        clear hR1 hG1
        go_wp2_with fail
        refine (new_calls (S := fun k => w1.heap.size ≤ k) (fun k hk => hk)).mono ?_
        rintro e w2 ⟨rfl, hB2, h2⟩
        have D2 := Aside0.mk (show RdS w2 (fun k => w1.heap.size ≤ k) w1.heap.size (some Rd.new) from ⟨rfl, _, _, _, h2⟩)
        have C2 := Aside0.mk (Kd.C_below (R1.out.C (by omega)).1 hB2)
        have B2 := Aside0.mk (below_step B1.out hB2)
        have hz12 := hB2.size
        clear hB2 h2
        go_wp2_with fail
        refine (feedS_calls D2.out (N := 0) Fd.new C2.out ?_ (fun k hk => by omega) (fun k hk => by have := B1.out.size; omega) (HG.out.below B2.out) (by omega)).mono ?_
        · intro h0 a ha
          subst ha
          have := (R1.out.block a.block rfl).2
          omega
        rintro e w3 ⟨hF3, vo, rfl, T3, hR3, -, -⟩
        have B3 := Aside0.mk ((Frame.of_below (S := fun k => w.heap.size ≤ k) B2.out).trans (hF3.mono (fun k _ hk => by have := B1.out.size; omega)) |>.below (fun k hk => hk))
        have hfc := feed_chunks ps GD.out
        rw [← S1.out, BY.out] at hfc
        have hRs : (feedS (some Rd.new) s1).1 = (feedF Rd.new s1).1 := rfl
        rw [hRs] at hR3
        have cvs : ∀ W, Below w.heap.size w W → (convert 40 9 (.slice A bs.length c)).run Tryz.prog W = .ok (.string (str bs)) W := fun W hW => by
          rw [← strOfNums_ints]
          have := Kd.C_string (P := Tryz.prog) (c := c) Tryz.underlying40 Tryz.underlying5 Tryz.underlying9 (Kd.C_below HC.out hW)
          exact this
        have CVS := Aside0.mk cvs
        clear hF3 hRs cvs
        by_cases hlim : 8192 < bs.length
        · rw [if_pos hlim] at hfc
          rw [hfc] at hR3
          obtain ⟨ad, c3, A2, c2, rfl, -, -, -, -, -, q5, -, -⟩ := one_event6 hR3
          clear hR3 hfc
          have q5 : w3.cell? ⟨ad.block, ad.off + 5, none⟩ = some (.int .i64 413) := q5
          go_wp2_with fail
          refine (lives_calls (HG.out.below B3.out) (Nat.le_trans h9 B3.out.size)).mono ?_
          rintro e w4 ⟨rfl, hB4⟩
          have B4 := Aside0.mk (below_step B3.out hB4)
          clear hB4
          go_wp2_with fail
          go_ret
          exact ⟨rfl, B4.out⟩
        · rw [if_neg hlim] at hfc
          obtain ⟨hfc, -⟩ := hfc
          rw [hfc] at hR3
          obtain ⟨ad, c3, A2, c2, rfl, q0, q1, q2, q3, q4, q5, q6, q7⟩ := one_event6 hR3
          clear hR3 hfc
          replace q0 : w3.cell? ad = some (.string ⟨#[80, 85, 84]⟩) := q0
          replace q1 : w3.cell? ⟨ad.block, ad.off + 1, none⟩ = some (.string ⟨#[47, 120]⟩) := q1
          replace q2 : w3.cell? ⟨ad.block, ad.off + 2, none⟩ = some (.slice A2 1 c2) := q2
          replace q3 : w3.cell? ⟨ad.block, ad.off + 3, none⟩ = some (.string (str bs)) := q3
          replace q4 : w3.cell? ⟨ad.block, ad.off + 4, none⟩ = some (.bool true) := q4
          replace q5 : w3.cell? ⟨ad.block, ad.off + 5, none⟩ = some (.int .i64 0) := q5
          obtain ⟨ah, hah, p0, p1⟩ := at_T38 (show k38.C w3 A2 1 [(⟨tCoding, tChunkedS⟩ : S38)] from q7) 0 (by omega) (by omega)
          have hzero : ah.add ((0 : Int).toNat * 2) = ah := by simp [Addr.add]
          have hrd : rd_T38 [(⟨tCoding, tChunkedS⟩ : S38)] 0 = ⟨tCoding, tChunkedS⟩ := rfl
          rw [hzero, hrd] at p0 p1
          subst hah
          replace p0 : w3.cell? ah = some (.string ⟨#[116, 114, 97, 110, 115, 102, 101, 114, 45, 101, 110, 99, 111, 100, 105, 110, 103]⟩) := p0
          replace p1 : w3.cell? ⟨ah.block, ah.off + 1, none⟩ = some (.string ⟨#[99, 104, 117, 110, 107, 101, 100]⟩) := p1
          have hbel := (Below.refl w3.heap.size w3).alloc (Nat.le_refl _) (.cells #[.string ⟨#[80, 85, 84]⟩, .string ⟨#[47, 120]⟩, .slice (some ah) 1 c2, .string (str bs), .bool true] 24)
          have n5 := pw_cell_below hbel q5
          have n0 := pw_cell_below hbel p0
          have n1 := pw_cell_below hbel p1
          clear p0 p1 hbel
          have cvt := CVS.out (w3.alloc (.cells #[.string ⟨#[80, 85, 84]⟩, .string ⟨#[47, 120]⟩, .slice (some ah) 1 c2, .string (str bs), .bool true] 24)) (B3.out.alloc B3.out.size _)
          clear q6 q7 hzero hrd
          go_wp2_with fail
          have B4 := Aside0.mk (B3.out.alloc B3.out.size (.cells #[.string ⟨#[80, 85, 84]⟩, .string ⟨#[47, 120]⟩, .slice (some ah) 1 c2, .string (str bs), .bool true] 24))
          refine (lives_calls (HG.out.below B4.out) (Nat.le_trans h9 B4.out.size)).mono ?_
          rintro e w5 ⟨rfl, hB5⟩
          have B5 := Aside0.mk (below_step B4.out hB5)
          clear hB5
          go_wp2_with fail
          go_ret
          exact ⟨rfl, B5.out⟩
      | cons r0 rs0 =>
        obtain ⟨rs, hrs⟩ : ∃ rs, rs = r0 :: rs0 := ⟨_, rfl⟩
        rw [← hrs] at hH hnum ⊢
        have hpos : 0 < rs.length := by rw [hrs]; simp
        have HRS := Aside0.mk hrs
        clear hrs
        have hrl : rs.length ≤ 10000 := by omega
        have hil : i ≤ 10000 := by omega
        have HN := Aside0.mk hnum
        clear hnum hb2
        go_upto_region 10 with fail
        go_cut [33] from 19 to 76 (fun v wx => v = .bool (decide (i < zs.length ∧ i < 40)) ∧ wr = wx)
        case first =>
          go_wp2_with fail
          all_goals
            go_meet
            case rel =>
              refine ⟨congrArg Value.bool ?_, rfl⟩
              rw [Bool.eq_iff_iff]
              simp only [decide_eq_true_eq, Bool.false_eq_true, false_iff]
              omega
        case rest =>
          obtain ⟨rfl, rfl⟩ := hcut
          go_upto_if 33 with fail
          go_cut [9] from 19 to 76 (fun v wx => (∃ n : Nat, 1 ≤ n ∧ n ≤ rs.length ∧ v = .int .i64 n) ∧ wr = wx)
          case first =>
            by_cases hz : i < zs.length ∧ i < 40
            · obtain ⟨hz1, hz2⟩ := hz
              obtain ⟨ad, rfl, hcell⟩ := HZ.out.at_ (i : Int) (by omega) (by omega)
              rw [Int.toNat_natCast] at hcell
              have hcell2 := pw_cell_below hH.out.below hcell
              obtain ⟨k, hk, hq⟩ := rem_range (rd zs (i : Int)) rs.length hpos (by omega)
              have hd : decide (i < zs.length ∧ i < 40) = true := decide_eq_true ⟨hz1, hz2⟩
              clear hcell
              go_wp2_with fail
              go_meet
              exact ⟨⟨k + 1, by omega, by omega, congrArg (Value.int .i64) (by omega)⟩, rfl⟩
            · have hd : decide (i < zs.length ∧ i < 40) = false := decide_eq_false hz
              go_wp2_with fail
              go_meet
              exact ⟨⟨rs.length, hpos, Nat.le_refl _, rfl⟩, rfl⟩
          case rest =>
            obtain ⟨⟨n, hn1, hn2, rfl⟩, rfl⟩ := hcut
            have hn3 : n ≤ 10000 := by omega
            obtain ⟨k1, hk1⟩ : ∃ k1, k1 = n / 4096 % 16 := ⟨_, rfl⟩
            obtain ⟨k2, hk2⟩ : ∃ k2, k2 = n / 256 % 16 := ⟨_, rfl⟩
            obtain ⟨k3, hk3⟩ : ∃ k3, k3 = n / 16 % 16 := ⟨_, rfl⟩
            obtain ⟨k4, hk4⟩ : ∃ k4, k4 = n % 16 := ⟨_, rfl⟩
            have a1 := and15 (n / 4096) (by omega)
            have a2 := and15 (n / 256) (by omega)
            have a3 := and15 (n / 16) (by omega)
            have a4 := and15 n (by omega)
            rw [← hk1, show ((n / 4096 : Nat) : Int) = (n : Int) / 4096 from by omega] at a1
            rw [← hk2, show ((n / 256 : Nat) : Int) = (n : Int) / 256 from by omega] at a2
            rw [← hk3, show ((n / 16 : Nat) : Int) = (n : Int) / 16 from by omega] at a3
            rw [← hk4] at a4
            have i1 := index_digit k1 (by omega)
            have i2 := index_digit k2 (by omega)
            have i3 := index_digit k3 (by omega)
            have i4 := index_digit k4 (by omega)
            have HX := Aside0.mk (show hx n = [dg k1, dg k2, dg k3, dg k4] from by rw [hk1, hk2, hk3, hk4]; rfl)
            have HB := Aside0.mk hH.out.below
            have hfl := chunks_le ps hH.out.good
            have hfb := congrArg List.length hH.out.bytes
            rw [List.length_append] at hfb
            have LEN := Aside0.mk (show (preC ++ ps.flatMap chunkB).length ≤ 200000 from by
              have : preC.length = 46 := rfl
              rw [List.length_append]; omega)
            obtain ⟨xs0, hxs0⟩ : ∃ xs0, xs0 = preC ++ ps.flatMap chunkB := ⟨_, rfl⟩
            have XS := Aside0.mk hxs0
            have R0 := Aside0.mk (show RowL wr w.heap.size u6 xs0 from by rw [hxs0]; exact hH.out.row)
            rw [← hxs0] at LEN
            have CX := Aside0.mk (Kd.C_below (C_lit wr [dg k1, dg k2, dg k3, dg k4] (0, 0) (by simp)) (below_drew (Below.refl _ _)))
            clear hfl hfb hxs0 hk1 hk2 hk3 hk4
            go_upto_region 12 with fail
            go_cut [6] from 19 to 76 (fun v wx => Aside0 (RowL wx w.heap.size v (xs0 ++ hx n) ∧ Below w.heap.size w wx))
            case first =>
              go_region_law (refine RowL.stepBytes (s := [dg k1, dg k2, dg k3, dg k4]) rfl (.tmp 45) (.tmp 65) rfl rfl (A := some ⟨wr.heap.size, 0, none⟩) (c := 4) rfl (R0.out.move (fun k hk hl => ((Below.refl wr.heap.size wr).alloc (Nat.le_refl _) _).block k hl)) CX.out (by simp) (by have := LEN.out; simp; omega) (by have := HB.out.size; simp; omega) ?_
                             intro v1 w1 hR1 hG1
                             have RR := Aside0.mk (And.intro hR1 hG1)
                             clear hR1 hG1)
              all_goals
                go_wp2_with fail
                go_meet
                refine ⟨?_, ?_⟩
                · rw [HX.out]; exact RR.out.1
                · exact pw_below_grown (below_drew (HB.out.alloc HB.out.size _)) _ (by have := HB.out.size; simp; omega) RR.out.2 (fun k hk => (R0.out.block k hk).1)
            case rest =>
              obtain ⟨hR, hB⟩ := hcut.out
              have R1 := Aside0.mk hR
              have HB1 := Aside0.mk hB
              have hrest := take_C n hn2 (Kd.C_below hH.out.rest hB)
              have CN := Aside0.mk hrest
              have ht := List.length_take (i := n) (l := rs)
              rw [Nat.min_eq_left hn2] at ht
              rw [ht] at CN
              have HT := Aside0.mk ht
              have LEN1 := Aside0.mk (show (xs0 ++ hx n).length ≤ 200004 from by rw [List.length_append, hx_length]; have := LEN.out; omega)
              have e71 := fun W => slice_high A' rs.length c' n (by have := hH.out.room; omega) W
              clear hR hB hcut a1 a2 a3 a4 i1 i2 i3 i4 CX R0 HB hrest ht
              go_upto_region 13 with fail
              go_cut [6] from 19 to 76 (fun v wx => Aside0 (RowL wx w.heap.size v (((xs0 ++ hx n) ++ [13, 10]) ++ rs.take n ++ [13, 10]) ∧ Below w.heap.size w wx))
              case first =>
                go_region_law (first
                  | (refine RowL.stepStr (s := [13, 10]) rfl (.tmp 67) ⟨#[13, 10]⟩ rfl rfl rfl R1.out (by simp) (by have := LEN1.out; simp only [List.length_cons, List.length_nil]; omega) HB1.out.size ?_
                     intro v1 w1 hR1 hG1
                     have R2 := Aside0.mk hR1
                     have HB2 := Aside0.mk (pw_below_grown (below_drew HB1.out) _ HB1.out.size hG1 (fun k hk => (R1.out.block k hk).1))
                     clear hR1 hG1)
                  | (refine RowL.stepBytes (s := rs.take n) rfl (.tmp 68) (.tmp 71) rfl rfl (A := A') (c := c') (by rw [HT.out]; rfl) R2.out (by rw [HT.out]; exact Kd.C_below (Kd.C_below hH.out.rest HB2.out |> take_C n hn2 |> (fun h => by rwa [HT.out] at h)) (Below.refl _ _)) (by rw [HT.out]; omega) (by rw [HT.out]; have := LEN1.out; simp only [List.length_append, List.length_cons, List.length_nil] at this ⊢; omega) HB2.out.size ?_
                     intro v2 w2 hR2 hG2
                     have R3 := Aside0.mk hR2
                     have HB3 := Aside0.mk (pw_below_grown HB2.out _ HB2.out.size hG2 (fun k hk => (R2.out.block k hk).1))
                     clear hR2 hG2)
                  | (refine RowL.stepStr (s := [13, 10]) rfl (.tmp 72) ⟨#[13, 10]⟩ rfl rfl rfl R3.out (by simp) (by have := LEN1.out; simp only [List.length_append, List.length_cons, List.length_nil, List.length_take] at this ⊢; omega) HB3.out.size ?_
                     intro v3 w3 hR3 hG3
                     have R4 := Aside0.mk hR3
                     have HB4 := Aside0.mk (pw_below_grown HB3.out _ HB3.out.size hG3 (fun k hk => (R3.out.block k hk).1))
                     clear hR3 hG3))
                all_goals
                  go_wp2_with fail
                  go_meet
                  exact ⟨R4.out, HB4.out⟩
              case rest =>
                obtain ⟨hR4, hB4⟩ := hcut.out
                have hnew : ChAt w wc bs u6 (lowA A' c' n) (c' - n) (i + 1) (ps ++ [rs.take n]) (rs.drop n) := by
                  refine ⟨lowA_C n hn2 hH.out.room hH.out.rest, ?_, ?_, hB4, ?_, ?_, ?_⟩
                  · have := hH.out.room; rw [List.length_drop]; omega
                  · rw [XS.out] at hR4
                    have e : preC ++ (ps ++ [rs.take n]).flatMap chunkB = preC ++ ps.flatMap chunkB ++ hx n ++ [13, 10] ++ rs.take n ++ [13, 10] := by
                      simp only [List.flatMap_append, List.flatMap_cons, List.flatMap_nil, List.append_nil, chunkB, HT.out, List.append_assoc]
                    rw [e]
                    exact hR4
                  · rw [List.flatten_append, List.append_assoc, ← hH.out.bytes]
                    simp
                  · intro p hp
                    rcases List.mem_append.1 hp with hp | hp
                    · exact hH.out.good p hp
                    · rw [List.mem_singleton.1 hp]
                      exact ⟨fun h0 => by have := HT.out; rw [h0] at this; simp at this; omega, by rw [HT.out]; omega⟩
                  · have := HN.out; rw [List.length_drop]; omega
                have NEW := Aside0.mk hnew
                have e76 := fun W => slice_low A' rs.length c' n hn2 W
                have hdl := List.length_drop (i := n) (l := rs)
                have HDL := Aside0.mk hdl
                clear hR4 hB4 hcut hnew hdl e71 CN R1 HB1
                go_wp2_with fail
                go_roundw
                case rel => exact ⟨lowA A' c' n, c' - n, i + 1, ps ++ [rs.take n], rs.drop n, by rw [HDL.out], by go_num, NEW⟩
                case measure => simp only [sliceLen]; omega
end Go.Proofs.YtafhkpnmolfjeaaGreatDoor.Rq
