/- Walk of RequestPieces. -/
import Derived.Test.YtafhkpnmolfjeaaGreatDoorMg
import Derived.Deep.DeepCutAuto
import Derived.Deep.RegionLaw
import Derived.Deep.QuietTactic
set_option linter.unusedVariables false
set_option linter.unusedSimpArgs false
namespace Go.Proofs.YtafhkpnmolfjeaaGreatDoor.Rq
open Go.RowKit Go.Proofs.YtafhkpnmolfjeaaGreatDoorW.PrintWords Go.Proofs.YtafhkpnmolfjeaaGreatDoor.PRequestBack

theorem cut_range (cut : Int) (n : Nat) (hn : n ≤ 1000000) : ∃ k : Nat, k ≤ n ∧ wrap64 ((IntKind.u64.wrap cut).tmod ((n : Int) + 1)) = k := by
  have h0 : 0 ≤ IntKind.u64.wrap cut := by
    show 0 ≤ (let m := cut % (2 ^ 64 : Int); if (false && m ≥ (2 ^ 63 : Int)) = true then m - 2 ^ 64 else m)
    simp only [Bool.false_and, Bool.false_eq_true, if_false]
    exact Int.emod_nonneg _ (by decide)
  rw [Int.tmod_eq_emod_of_nonneg h0]
  have h1 := Int.emod_nonneg (IntKind.u64.wrap cut) (show (n : Int) + 1 ≠ 0 by omega)
  have h2 := Int.emod_lt_of_pos (IntKind.u64.wrap cut) (show (0 : Int) < (n : Int) + 1 by omega)
  refine ⟨((IntKind.u64.wrap cut) % ((n : Int) + 1)).toNat, by omega, ?_⟩
  unfold wrap64
  omega
/-- The address of v[k:]. -/
def lowA (A : Option Addr) (c k : Nat) : Option Addr := if c = k then A else A.map (·.add k)
theorem slice_low (A : Option Addr) (n c k : Nat) (hk : k ≤ n) (W : World) : (Instr.slice 40 (.slice A n c) (some (.int .i64 (k : Int))) none none).run Tryz.prog W = .ok (.slice (lowA A c k) (n - k) (c - k)) W := by
  have he : Tryz.prog.elem 40 = 5 := by kernel_rfl
  rw [run_slice_l W 40 A n c (by rw [he]; exact Tryz.underlying40) .i64 (k : Int) (by omega) (by omega), he, sizeOf5]
  simp [sliced, lowA, Result.andThen]
theorem slice_high (A : Option Addr) (n c k : Nat) (hk : k ≤ c) (W : World) : (Instr.slice 40 (.slice A n c) none (some (.int .i64 (k : Int))) none).run Tryz.prog W = .ok (.slice A k c) W := by
  have he : Tryz.prog.elem 40 = 5 := by kernel_rfl
  rw [run_slice_h W 40 A n c (by rw [he]; exact Tryz.underlying40) .i64 (k : Int) (by omega) (by omega), he, sizeOf5]
  have h0 : (if c = 0 then A else A.map (·.add 0)) = A := by
    split
    · rfl
    · cases A <;> simp [Addr.add]
  simp [sliced, Result.andThen, h0]
theorem lowA_C {w : World} {A : Option Addr} {c : Nat} {bs : List UInt8} (k : Nat) (hk : k ≤ bs.length) (hc : bs.length ≤ c) (h : (Kd.int .u8).C w A bs.length (ints bs)) : (Kd.int .u8).C w (lowA A c k) (bs.drop k).length (ints (bs.drop k)) := by
  have h1 := (readsInt_of.2 (Kd.reads_of_C h)).drop_ k hk hc
  rw [List.length_drop]
  have e : ints (bs.drop k) = (ints bs).drop k := by simp [ints]
  rw [e]
  exact Kd.C_of_reads (readsInt_of.1 h1)
theorem take_C {w : World} {A : Option Addr} {bs : List UInt8} (k : Nat) (hk : k ≤ bs.length) (h : (Kd.int .u8).C w A bs.length (ints bs)) : (Kd.int .u8).C w A (bs.take k).length (ints (bs.take k)) := by
  have h1 := (readsInt_of.2 (Kd.reads_of_C h)).take_ k hk
  have e : ints (bs.take k) = (ints bs).take k := by simp [ints]
  rw [List.length_take, Nat.min_eq_left hk, e]
  exact Kd.C_of_reads (readsInt_of.1 h1)
theorem lowA_block {A : Option Addr} {c k : Nat} {a : Addr} (h : lowA A c k = some a) : ∃ a0, A = some a0 ∧ a.block = a0.block := by
  unfold lowA at h
  split at h
  · exact ⟨a, h, rfl⟩
  · cases A with
    | none => cases h
    | some a0 =>
      simp only [Option.map_some, Option.some.injEq] at h
      subst h
      exact ⟨a0, rfl, add_block _ _⟩
theorem pieces_lit {w : World} {S : Nat → Prop} (vs : Array Value) (bs : List (List UInt8)) (hS : ∀ k, S k → k < w.heap.size)
    (h : ∀ (k : Nat) b, bs[k]? = some b → ∃ A c, vs[k]? = some (.slice A b.length c) ∧ (Kd.int .u8).C w A b.length (ints b) ∧ (0 < b.length → ∀ a, A = some a → ¬ S a.block ∧ a.block < w.heap.size)) :
    Pieces (w.alloc (.cells vs 40)) S w.heap.size bs := by
  refine ⟨by simp, fun hc => by have := hS _ hc; omega, fun k b hk => ?_⟩
  obtain ⟨A, c, h1, h2, h3⟩ := h k b hk
  refine ⟨A, c, (new_cell w vs 40 (0, 0) k).trans h1, Kd.C_below h2 ((Below.refl w.heap.size w).alloc (Nat.le_refl _) _), fun h0 a ha => ⟨(h3 h0 a ha).1, ?_⟩⟩
  have := (h3 h0 a ha).2
  simp; omega
theorem Pieces.drew {w : World} {S : Nat → Prop} {p : Nat} {bs : List (List UInt8)} (h : Pieces w S p bs) : Pieces w.drew S p bs :=
  ⟨h.lt, h.out, fun k b hb => by
    obtain ⟨A, c, h1, h2, h3⟩ := h.at_ k b hb
    exact ⟨A, c, h1, Kd.C_below h2 (below_drew (Below.refl _ _)), h3⟩⟩
theorem feeds1 (s : Option Rd) (b : List UInt8) : feeds s [b] = feedS s b := by simp [feeds]
theorem alike_rows {w : World} {T0 T1 : Nat → Prop} {A0 A1 : Option Addr} {c0 c1 : Nat} {L : List S53} (h0 : k53.R 53 w 0 T0 (.slice A0 L.length c0) L) (h1 : k53.R 53 w 0 T1 (.slice A1 L.length c1) L) :
    Calls Tryz.prog 24 #[.slice A0 L.length c0, .slice A1 L.length c1] w fun e w' => e = .returned (.bool true) ∧ Below w.heap.size w w' := by
  obtain ⟨B0, d0, e0, l0, r0⟩ := Kd.R_reads h0
  obtain ⟨B1, d1, e1, l1, r1⟩ := Kd.R_reads h1
  injection e0 with e01 _ e02
  injection e1 with e11 _ e12
  subst e01 e02 e11 e12
  exact alike_calls r0 l0 r1 l1
theorem feeds3 (x y : List UInt8) : feeds (some Rd.new) [x, [], y] = feedS (some Rd.new) (x ++ y) := by
  rw [← feed3 x y]
  simp [feeds, List.append_assoc]
def single (l : List UInt8) : List (List UInt8) := l.map fun b => [b]
theorem feedB_single : ∀ (l : List UInt8) (s : Option Rd), feedB s l = feeds s (single l)
  | [], s => rfl
  | b :: l, s => by
    show ((feedS s [b]).1 ++ (feedB (feedS s [b]).2 l).1, (feedB (feedS s [b]).2 l).2) = ((feedS s [b]).1 ++ (feeds (feedS s [b]).2 (single l)).1, (feeds (feedS s [b]).2 (single l)).2)
    rw [feedB_single l]
theorem single_flatten (l : List UInt8) : (single l).flatten = l := by
  induction l with
  | nil => rfl
  | cons b l ih => simp only [single, List.map_cons, List.flatten_cons] at ih ⊢; rw [ih]; rfl
theorem single_length (l : List UInt8) : (single l).length = l.length := by simp [single]
theorem single_snoc (l : List UInt8) (b : UInt8) : single (l ++ [b]) = single l ++ [[b]] := by simp [single]
theorem byte_at {w : World} {A : Option Addr} {bs : List UInt8} (h : (Kd.int .u8).C w A bs.length (ints bs)) {j : Nat} {x : UInt8} (hx : bs[j]? = some x) : ∃ ad, A = some ad ∧ w.cell? (ad.add j) = some (.int .u8 x.toNat) := by
  have hj := (List.getElem?_eq_some_iff.1 hx).1
  obtain ⟨ad, e, hc⟩ := (readsInt_of.2 (Kd.reads_of_C h)).at_ (j : Int) (by omega) (by omega)
  refine ⟨ad, e, ?_⟩
  rw [Int.toNat_natCast] at hc
  rw [hc]
  have : rd (ints bs) (j : Int) = x.toNat := by
    unfold rd
    rw [Int.toNat_natCast, getD_ints, List.getD_eq_getElem?_getD, hx]
    rfl
  rw [this]
set_option maxRecDepth 100000 in
set_option maxHeartbeats 3200000 in
theorem pieces_calls {w : World} (hG : Glob w) (h9 : 9 ≤ w.heap.size) (A : Option Addr) (c : Nat) (bs : List UInt8) (cut : Int) (hC : (Kd.int .u8).C w A bs.length (ints bs)) (hc : bs.length ≤ c) (hA : 0 < bs.length → ∀ a, A = some a → a.block < w.heap.size) :
    Calls Tryz.prog 6 #[.slice A bs.length c, .int .i64 cut] w fun e w' => e = .returned (.bool true) ∧ Below w.heap.size w w' := by
  have HG := Aside0.mk hG
  have HC := Aside0.mk hC
  have HA := Aside0.mk hA
  have hm : bs.length ≤ 9223372036854775807 := hC.2.1
  clear hG hC hA
  by_cases hbig : 20000 < bs.length
  · go_enter Tryz.func6, Tryz.ntmps6
    go_wp2_with fail
    refine (lives_calls HG.out h9).mono ?_
    rintro e w1 ⟨rfl, hB⟩
    have HB := Aside0.mk hB
    clear hB
    go_wp2_with fail
    go_ret
    exact ⟨rfl, HB.out⟩
  · obtain ⟨k, hk, hq⟩ := cut_range cut bs.length (by omega)
    go_enter Tryz.func6, Tryz.ntmps6
    go_wp2_with fail
    refine (new_calls (S := fun k => w.heap.size ≤ k) (fun k hk => hk)).mono ?_
    rintro e w1 ⟨rfl, hB1, h1⟩
    have D1 := Aside0.mk (show RdS w1 (fun k => w.heap.size ≤ k ∧ k < w1.heap.size) w.heap.size (some Rd.new) from RdS.within (s := some Rd.new) ⟨rfl, _, _, _, h1⟩)
    have B1 := Aside0.mk hB1
    clear hB1 h1
    go_wp2_with fail
    refine (new_calls (S := fun k => w1.heap.size ≤ k) (fun k hk => hk)).mono ?_
    rintro e w2 ⟨rfl, hB2, h2⟩
    have D2 := Aside0.mk (show RdS w2 (fun k => w1.heap.size ≤ k ∧ k < w2.heap.size) w1.heap.size (some Rd.new) from RdS.within (s := some Rd.new) ⟨rfl, _, _, _, h2⟩)
    have B2 := Aside0.mk hB2
    clear hB2 h2
    go_wp2_with fail
    refine (new_calls (S := fun k => w2.heap.size ≤ k) (fun k hk => hk)).mono ?_
    rintro e w3 ⟨rfl, hB3, h3⟩
    have D3 := Aside0.mk (show RdS w3 (fun k => w2.heap.size ≤ k ∧ k < w3.heap.size) w2.heap.size (some Rd.new) from RdS.within (s := some Rd.new) ⟨rfl, _, _, _, h3⟩)
    have B3 := Aside0.mk hB3
    clear hB3 h3
    go_wp2_with fail
    rw [hq]
    have P1 := Aside0.mk (pieces_lit (w := w3) (S := fun k => w.heap.size ≤ k ∧ k < w1.heap.size) #[.slice A bs.length c] [bs] (fun k hk => by have := B2.out.size; have := B3.out.size; omega) (fun j b hj => by
      cases j with
      | zero =>
        simp only [List.getElem?_cons_zero, Option.some.injEq] at hj
        subst hj
        refine ⟨A, c, rfl, Kd.C_below (Kd.C_below (Kd.C_below HC.out B1.out) B2.out) B3.out, fun h0 a ha => ?_⟩
        have := HA.out h0 a ha
        have := B1.out.size; have := B2.out.size; have := B3.out.size
        exact ⟨fun hc => by omega, by omega⟩
      | succ j => simp at hj))
    have R1 := Aside0.mk ((((D1.out.move B2.out.size (fun k hk hl => B2.out.block k hl)).move B3.out.size (fun k hk hl => B3.out.block k hl))).move (w1 := w3.alloc (.cells #[.slice A bs.length c] 40)) (by simp) (fun k hk hl => ((Below.refl w3.heap.size w3).alloc (Nat.le_refl _) _).block k hl))
    have HG4 := Aside0.mk ((((HG.out.below B1.out).below B2.out).below B3.out).below ((Below.refl w3.heap.size w3).alloc (Nat.le_refl _) (.cells #[.slice A bs.length c] 40)))
    have z1 := B1.out.size
    have z2 := B2.out.size
    have z3 := B3.out.size
    refine (fed_calls R1.out (N := 0) Fd.new P1.out (fun k hk => by omega) (by simp; omega) HG4.out (by simp; omega) (by simp)).mono ?_
    rintro e w5 ⟨v9, rfl, T1, S1, hH1⟩
    rw [feeds1] at hH1
    have H1 := Aside0.mk hH1
    obtain ⟨A9, c9, rfl⟩ := R_slice hH1.row
    clear hH1 hq
    have e35 := fun W => slice_high A bs.length c k (by omega) W
    have e38 := fun W => slice_low A bs.length c k hk W
    have z4 := H1.out.frame.size
    have z5 : w3.heap.size + 1 ≤ w5.heap.size := by simpa using z4
    have B5 := Aside0.mk (show Below w.heap.size w w5 from by
      have f1 := (Frame.of_below (S := fun k => w.heap.size ≤ k) B1.out).trans (Frame.of_below B2.out)
      have f2 := (f1.trans (Frame.of_below B3.out)).alloc (.cells #[.slice A bs.length c] 40)
      exact (f2.trans (H1.out.frame.mono fun k _ hk => by
        rcases hk with hk | hk
        · exact hk.1
        · simp at hk; omega)).below (fun k hk => hk))
    have D25 := Aside0.mk (((D2.out.move B3.out.size (fun k hk hl => B3.out.block k hl)).move (w1 := w3.alloc (.cells #[.slice A bs.length c] 40)) (by simp) (fun k hk hl => ((Below.refl w3.heap.size w3).alloc (Nat.le_refl _) _).block k hl)).move H1.out.frame.size (fun k hk hl => H1.out.frame.block k hl (by simp; omega)))
    have D35 := Aside0.mk ((D3.out.move (w1 := w3.alloc (.cells #[.slice A bs.length c] 40)) (by simp) (fun k hk hl => ((Below.refl w3.heap.size w3).alloc (Nat.le_refl _) _).block k hl)).move H1.out.frame.size (fun k hk hl => H1.out.frame.block k hl (by simp; omega)))
    have P2 := Aside0.mk (pieces_lit (w := w5) (S := fun k => w1.heap.size ≤ k ∧ k < w2.heap.size) #[.slice A k c, .slice none 0 0, .slice (lowA A c k) (bs.length - k) (c - k)] [bs.take k, [], bs.drop k] (fun q hq => by omega) (fun j b hj => by
      have hC5 := Kd.C_below HC.out B5.out
      match j with
      | 0 =>
        simp only [List.getElem?_cons_zero, Option.some.injEq] at hj
        subst hj
        refine ⟨A, c, by rw [List.length_take, Nat.min_eq_left hk]; rfl, take_C k hk hC5, fun h0 a ha => ?_⟩
        have := HA.out (by rw [List.length_take] at h0; omega) a ha
        exact ⟨fun hc => by omega, by omega⟩
      | 1 =>
        simp only [List.getElem?_cons_succ, List.getElem?_cons_zero, Option.some.injEq] at hj
        subst hj
        exact ⟨none, 0, rfl, ⟨rfl, Nat.zero_le _, fun h => absurd h (by simp)⟩, fun h => absurd h (by simp)⟩
      | 2 =>
        simp only [List.getElem?_cons_succ, List.getElem?_cons_zero, Option.some.injEq] at hj
        subst hj
        refine ⟨lowA A c k, c - k, by rw [List.length_drop]; rfl, lowA_C k hk hc hC5, fun h0 a ha => ?_⟩
        obtain ⟨a0, ha0, hab⟩ := lowA_block ha
        have := HA.out (by rw [List.length_drop] at h0; omega) a0 ha0
        rw [hab]
        exact ⟨fun hc => by omega, by omega⟩
      | j + 3 => simp at hj)).drew
    have R2 := Aside0.mk (D25.out.move (w1 := (w5.alloc (.cells #[.slice A k c, .slice none 0 0, .slice (lowA A c k) (bs.length - k) (c - k)] 40)).drew) (by simp) (fun k hk hl => ((Below.refl w5.heap.size w5).alloc (Nat.le_refl _) _).block k hl))
    have HG6 := Aside0.mk ((HG.out.below B5.out).below (below_drew ((Below.refl w5.heap.size w5).alloc (Nat.le_refl _) (.cells #[.slice A k c, .slice none 0 0, .slice (lowA A c k) (bs.length - k) (c - k)] 40))))
    have hfl : [bs.take k, [], bs.drop k].flatten.length = bs.length := by simp
    have HFL := Aside0.mk hfl
    clear hfl z4
    go_upto_region 6 with fail
    go_cut [10] (fun v wc => Aside0 (∃ wa T S2, Below w5.heap.size w5 wa ∧ w5.heap.size < wa.heap.size ∧ Held wa wc (fun k => w1.heap.size ≤ k ∧ k < w2.heap.size) w1.heap.size v (feeds (some Rd.new) [bs.take k, [], bs.drop k]).1 (feeds (some Rd.new) [bs.take k, [], bs.drop k]).2 T S2))
    case first =>
      go_region_law (first
        | (go_simp
           go_at_call 22
           refine (fed_calls R2.out (N := 0) (bs := [bs.take k, [], bs.drop k]) Fd.new P2.out (fun k hk => by omega) (by simp; omega) HG6.out (by rw [HFL.out]; omega) (by simp)).mono ?_
           rintro e w7 ⟨v10, rfl, T2, S2, hH2⟩
           have H2 := Aside0.mk hH2
           clear hH2))
      all_goals
        go_wp2_with fail
        go_meet
        exact ⟨_, _, _, below_drew ((Below.refl w5.heap.size w5).alloc (Nat.le_refl _) _), by simp, H2.out⟩
    case rest =>
      obtain ⟨wa, T2, S2, hBa, hlt, hH2⟩ := hcut.out
      rw [feeds3, List.take_append_drop] at hH2
      obtain ⟨A10, c10, rfl⟩ := R_slice hH2.row
      have H2 := Aside0.mk hH2
      have BA := Aside0.mk hBa
      have z6 := hH2.frame.size
      have z7 := hBa.size
      have BC := Aside0.mk (show Below w.heap.size w wc from by
        have f1 := (Frame.of_below (S := fun k => w.heap.size ≤ k) B5.out).trans ((Frame.of_below hBa))
        exact (f1.trans (hH2.frame.mono fun k _ hk => by rcases hk with hk | hk <;> omega)).below (fun k hk => hk))
      have D3C := Aside0.mk ((D35.out.move hBa.size (fun k hk hl => hBa.block k hl)).move hH2.frame.size (fun k hk hl => hH2.frame.block k hl (by omega)))
      have HS3 := Aside0.mk (Held.start D3C.out)
      clear hH2 hBa hcut e35 e38 P2 R2 HG6 HFL D25 D35
      go_wp2_with fail
      go_loopw [11, 43] (fun v i wr => ∃ j : Nat, j ≤ bs.length ∧ i = .int .i64 j ∧ Aside0 (HeldS wc wr (fun k => w2.heap.size ≤ k ∧ k < w3.heap.size) w2.heap.size v (feeds (some Rd.new) (single (bs.take j))).1 (feeds (some Rd.new) (single (bs.take j))).2)) (fun _ i _ => bs.length - (intOf i).toNat)
      case atStart => exact ⟨0, Nat.zero_le _, rfl, ⟨_, _, HS3.out⟩⟩
      case round =>
        obtain ⟨j, hj, rfl, hH⟩ := hrel
        by_cases hjl : j < bs.length
        · obtain ⟨x, hx⟩ : ∃ x, bs[j]? = some x := ⟨_, List.getElem?_eq_getElem hjl⟩
          obtain ⟨T, S1, hH⟩ := hH.out
          have BR := Aside0.mk (show Below w.heap.size w wr from
            ((Frame.of_below (S := fun k => w.heap.size ≤ k) BC.out).trans (hH.frame.mono fun k _ hk => by rcases hk with hk | hk <;> omega)).below (fun k hk => hk))
          obtain ⟨ad, rfl, hcell⟩ := byte_at (Kd.C_below HC.out BR.out) hx
          have hsn := feeds_snoc (single (bs.take j)) (some Rd.new) [x]
          rw [← single_snoc, ← take_snoc bs j x hx] at hsn
          have hfl : (single (bs.take j)).flatten.length = j := by rw [single_flatten, List.length_take]; omega
          have hfk := fdS_feeds (single (bs.take j)) (N := 0) (s := some Rd.new) Fd.new (by omega)
          have hek := fdS_events (single (bs.take j)) (N := 0) (s := some Rd.new) (M := 20000) Fd.new (by omega) (by omega)
          have hek1 : (single (bs.take j)).length ≤ 20000 := by rw [single_length, List.length_take]; omega
          have hev := FdS.events hfk [x] (by simp only [List.length_singleton]; omega)
          simp only [List.length_singleton] at hev
          have EV := Aside0.mk (show ((feeds (some Rd.new) (single (bs.take j))).1.length + (feedS (feeds (some Rd.new) (single (bs.take j))).2 [x]).1.length) * 88 ≤ 140737488355328 from by
            have : (single (bs.take j)).length * (2 * 20000 + 2) ≤ 20000 * (2 * 20000 + 2) := Nat.mul_le_mul_right _ hek1
            omega)
          have NB := Aside0.mk (show (0 + (single (bs.take j)).flatten.length) + [x].length ≤ 1000000000 from by simp only [List.length_singleton]; omega)
          have SN := Aside0.mk hsn
          have FK := Aside0.mk hfk
          have HH := Aside0.mk hH
          have hBa : Below wr.heap.size wr (wr.alloc (.cells #[.int .u8 x.toNat] 5)) := (Below.refl wr.heap.size wr).alloc (Nat.le_refl _) _
          have CX := Aside0.mk (show (Kd.int .u8).C (wr.alloc (.cells #[.int .u8 x.toNat] 5)) (some ⟨wr.heap.size, 0, none⟩) [x].length (ints [x]) from C_lit wr [x] (0, 0) (by simp))
          have X := Aside0.mk (own_of_feed HH.out (Nat.le_trans h9 BC.out.size) (fun k hk => by omega) (HG.out.below BC.out) hBa)
          have RA := Aside0.mk (HH.out.rdAt hBa)
          have HBA := Aside0.mk hBa
          clear hsn hfl hfk hek hek1 hev hH hBa
          go_wp2_with fail
          refine (feedS_calls RA.out FK.out CX.out ?_ (fun k hk => .inr hk) X.out.1 X.out.2 NB.out).mono ?_
          · intro h0 a ha
            have h2 := HH.out.rd.own.2
            cases ha
            show wr.heap.size ≠ w2.heap.size
            omega
          rintro e w5' ⟨hf5, vo, rfl, hout⟩
          obtain ⟨Tl, hRl, hTl, hrd⟩ := RdS.of_out hout
          obtain ⟨Al, cl, rfl, hrows⟩ := R_rowsM hRl
          have R5 := Aside0.mk (HH.out.row5 HBA.out hf5)
          have F5 := Aside0.mk hf5
          have TL := Aside0.mk hTl
          have RD := Aside0.mk hrd
          have RW := Aside0.mk hrows
          clear hf5 hout hRl hTl hrd hrows hcell
          go_wp2_with (at_builtin; go_must (refine Kd.R_append_rows k53 (Rr := k53.M w5' 0 Tl) (w0 := w5') 0 rfl (.tmp 46) (.tmp 53) 44 53 _ 88 rfl Tryz.underlying44 info53 rfl (by decide) (by decide) u11 (feeds (some Rd.new) (single (List.take j bs))).1 (feedS (feeds (some Rd.new) (single (List.take j bs))).2 [x]).1 Al (feedS (feeds (some Rd.new) (single (List.take j bs))).2 [x]).1.length cl (fun k => T k ∨ Tl k ∨ w5'.heap.size ≤ k) Tl (by simp [Act.eval, Act.put]) (by simp [Act.eval, Act.put]) (Kd.R_mono R5.out (fun k hk => Or.inl hk)) RW.out (fun _ _ h => h) ?d1 (fun k hk => Or.inr (Or.inr hk)) ((Below.refl w5'.heap.size w5').mono (Nat.zero_le _)) (Nat.zero_le _) EV.out ?_))
          case d1 => exact fun k hk => ⟨.inr (.inl hk), fun e => HH.out.apart HBA.out (HH.out.row.1 k e.symm) (TL.out k hk).1⟩
          intro v1 w6 hR6 hB6 hg6 hat6
          have R6 := Aside0.mk hR6
          have G6 := Aside0.mk hg6
          clear hR6 hB6 hg6 hat6
          go_wp2_with fail
          go_roundw
          case rel =>
            refine ⟨j + 1, by omega, by go_num, ⟨?_⟩⟩
            rw [SN.out]
            exact ⟨_, _, HH.out.step (vb := .nilFunc) HBA.out (fun k hk => by simp [Value.ownBlock] at hk) F5.out TL.out RD.out R6.out G6.out (Frame.refl _ _)⟩
          case measure => simp [intOf]; omega
        · obtain rfl : j = bs.length := by omega
          obtain ⟨T3, S3, hH⟩ := hH.out
          rw [List.take_of_length_le (Nat.le_refl _), ← feedB_single, feedB_eq bs (by omega)] at hH
          have BR := Aside0.mk (show Below w.heap.size w wr from
            ((Frame.of_below (S := fun k => w.heap.size ≤ k) BC.out).trans (hH.frame.mono fun k _ hk => by rcases hk with hk | hk <;> omega)).below (fun k hk => hk))
          have K1 := H1.out.keep (w' := wa) (Z := fun _ => False) (Frame.of_below BA.out) (fun _ _ _ h => h)
          have FIN := Aside0.mk (show Fin3 wr w.heap.size w1.heap.size w2.heap.size (.slice A9 (feedS (some Rd.new) bs).1.length c9) (.slice A10 (feedS (some Rd.new) bs).1.length c10) u11 (feedS (some Rd.new) bs).1 (feedS (some Rd.new) bs).2 from by
            have hq : ∀ k, k < w5.heap.size → (w.heap.size ≤ k ∧ k < w1.heap.size ∨ (w3.alloc (.cells #[.slice A bs.length c] 40)).heap.size ≤ k) → k < w1.heap.size ∨ w3.heap.size < k := by
              intro k hk h
              rcases h with h | h
              · exact .inl h.2
              · simp at h; exact .inr (by omega)
            have f1 : Frame (fun k => (w1.heap.size ≤ k ∧ k < w2.heap.size ∨ wa.heap.size ≤ k) ∨ (w2.heap.size ≤ k ∧ k < w3.heap.size ∨ wc.heap.size ≤ k)) w5 wr :=
              ((Frame.of_below BA.out).trans (H2.out.frame.mono fun k _ hk => .inl hk)).trans (hH.frame.mono fun k _ hk => .inr hk)
            have k1 := H1.out.keep f1 (fun k hk h hc => by
              have := hq k hk h
              rcases hc with (hc | hc) | (hc | hc) <;> omega)
            have k2 := H2.out.keep hH.frame (fun k hk h hc => by
              rcases h with h | h <;> rcases hc with hc | hc <;> omega)
            exact ⟨⟨_, k1.1⟩, ⟨_, k2.1⟩, ⟨_, hH.row⟩, ⟨_, k1.2⟩, ⟨_, k2.2⟩, ⟨_, hH.rd⟩, HG.out.below BR.out, Nat.le_trans h9 BR.out.size⟩)
          clear hH K1
          obtain ⟨A11, c11, h11⟩ : ∃ A c, u11 = .slice A (feedS (some Rd.new) bs).1.length c := by
            obtain ⟨T, h⟩ := FIN.out.r3
            exact R_slice h
          subst h11
          have FS := Aside0.mk (FdS.feed (N := 0) (s := some Rd.new) Fd.new bs (by omega))
          have ws : 0 + bs.length ≤ 1000000000 := by omega
          have WS := Aside0.mk ws
          clear ws
          go_wp2_with fail
          refine (alike_rows FIN.out.r1.choose_spec FIN.out.r2.choose_spec).mono ?_
          rintro e w8 ⟨rfl, hB⟩
          have FIN1 := Aside0.mk (FIN.out.below hB)
          have BR1 := Aside0.mk (below_step BR.out hB)
          clear hB FIN BR
          go_wp2_with fail
          refine (alike_rows FIN1.out.r1.choose_spec FIN1.out.r3.choose_spec).mono ?_
          rintro e w9 ⟨rfl, hB⟩
          have FIN := Aside0.mk (FIN1.out.below hB)
          have BR := Aside0.mk (below_step BR1.out hB)
          clear hB FIN1 BR1
          go_wp2_with fail
          refine (leftS_calls FIN.out.d1.choose_spec FS.out WS.out).mono ?_
          rintro e w10 ⟨rfl, hB⟩
          have FIN1 := Aside0.mk (FIN.out.below hB)
          have BR1 := Aside0.mk (below_step BR.out hB)
          clear hB FIN BR
          go_wp2_with fail
          refine (leftS_calls FIN1.out.d2.choose_spec FS.out WS.out).mono ?_
          rintro e w11 ⟨rfl, hB⟩
          have FIN := Aside0.mk (FIN1.out.below hB)
          have BR := Aside0.mk (below_step BR1.out hB)
          clear hB FIN1 BR1
          go_wp2_with fail
          refine (leftS_calls FIN.out.d1.choose_spec FS.out WS.out).mono ?_
          rintro e w12 ⟨rfl, hB⟩
          have FIN1 := Aside0.mk (FIN.out.below hB)
          have BR1 := Aside0.mk (below_step BR.out hB)
          clear hB FIN BR
          go_wp2_with fail
          refine (leftS_calls FIN1.out.d3.choose_spec FS.out WS.out).mono ?_
          rintro e w13 ⟨rfl, hB⟩
          have FIN := Aside0.mk (FIN1.out.below hB)
          have BR := Aside0.mk (below_step BR1.out hB)
          clear hB FIN1 BR1
          go_wp2_with fail
          refine (overS_calls FIN.out.d1.choose_spec FS.out).mono ?_
          rintro e w14 ⟨rfl, rfl⟩
          go_wp2_with fail
          refine (overS_calls FIN.out.d3.choose_spec FS.out).mono ?_
          rintro e w15 ⟨rfl, rfl⟩
          go_wp2_with fail
          refine (overS_calls FIN.out.d1.choose_spec FS.out).mono ?_
          rintro e w16 ⟨rfl, rfl⟩
          go_wp2_with fail
          refine (overS_calls FIN.out.d2.choose_spec FS.out).mono ?_
          rintro e w17 ⟨rfl, rfl⟩
          go_wp2_with fail
          refine (lives_calls FIN.out.glob FIN.out.big).mono ?_
          rintro e w18 ⟨rfl, hB⟩
          have BR1 := Aside0.mk (below_step BR.out hB)
          clear hB
          go_wp2_with fail
          go_ret
          exact ⟨rfl, BR1.out⟩
end Go.Proofs.YtafhkpnmolfjeaaGreatDoor.Rq
