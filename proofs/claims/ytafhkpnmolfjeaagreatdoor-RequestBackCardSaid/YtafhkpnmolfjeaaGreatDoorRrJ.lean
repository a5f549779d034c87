/- Walk of request.Print. -/
import Derived.Test.YtafhkpnmolfjeaaGreatDoorRrI
import Derived.Deep.DeepCutAuto
import Derived.Deep.RegionLaw
import Derived.Deep.QuietTactic
import Derived.BigQuiet
set_option linter.unusedVariables false
set_option linter.unusedSimpArgs false
namespace Go.Proofs.YtafhkpnmolfjeaaGreatDoor.Rq
open Go.RowKit Go.Proofs.YtafhkpnmolfjeaaGreatDoorW.PrintWords Go.Proofs.YtafhkpnmolfjeaaGreatDoor.PRequestBack

theorem SbAt.move {w w' : World} {base b : Nat} {xs : List UInt8} (h : SbAt w base b xs) (hB : Below w.heap.size w w') : SbAt w' base b xs := by
  have key : ∀ {p}, Lib.BuilderAt 99 5 base b p (nums .u8 (ints xs)) w → Lib.BuilderAt 99 5 base b p (nums .u8 (ints xs)) w' := by
    rintro p ⟨h1, v, h2, h3, h4⟩
    exact ⟨h1, v, (hB.block b (Array.getElem?_eq_some_iff.1 h2).1).trans h2, own_move h3 (fun k hk => hB.block k (own_lt h3 k hk)), h4⟩
  rcases h with h | h
  · exact .inl (key h)
  · exact .inr (key h)
theorem headS (q : S24) : bl (q.f0 ++ ⟨#[32]⟩ ++ q.f1 ++ ⟨#[32, 72, 84, 84, 80, 47, 49, 46, 49, 13, 10]⟩) = headT q := by
  rw [bl_append, bl_append, bl_append, List.append_assoc, List.append_assoc]
  rfl
theorem hdrS (p : S38) : bl (p.f0 ++ ⟨#[58, 32]⟩ ++ p.f1 ++ ⟨#[13, 10]⟩) = hdrT p := by
  rw [bl_append, bl_append, bl_append, List.append_assoc, List.append_assoc]
  rfl
theorem tailS (s : ByteArray) : bl (⟨#[13, 10]⟩ ++ s) = [13, 10] ++ bl s := by
  rw [bl_append]
  rfl
theorem hwt_get {l : List S38} {k : Nat} {p : S38} (h : l[k]? = some p) : p.f0.size + p.f1.size + 4 ≤ hwt l := by
  induction l generalizing k with
  | nil => simp at h
  | cons x l ih =>
    cases k with
    | zero =>
      simp only [List.getElem?_cons_zero, Option.some.injEq] at h
      subst h
      simp only [hwt]; omega
    | succ k =>
      simp only [List.getElem?_cons_succ] at h
      have := ih h
      simp only [hwt]; omega
theorem part_le (q : S24) (k : Nat) : (headT q ++ (q.f2.take k).flatMap hdrT).length + q.f3.size + 2 ≤ (textF q).length := by
  have h : (q.f2.flatMap hdrT).length = ((q.f2.take k).flatMap hdrT).length + ((q.f2.drop k).flatMap hdrT).length := by
    conv => lhs; rw [← List.take_append_drop k q.f2, List.flatMap_append, List.length_append]
  unfold textF
  simp only [List.length_append, bl_length, h, List.length_cons, List.length_nil]
  omega
/-- The one event of a list, all its cells. -/
theorem one_ev {w : World} {T : Nat → Prop} {v : Value} {x : S53} (h : k53.R 53 w 0 T v [x]) : ∃ ad c A2 c2, v = .slice (some ad) 1 c ∧ w.cell? ad = some (.string x.f0.f0) ∧ w.cell? ⟨ad.block, ad.off + 1, none⟩ = some (.string x.f0.f1) ∧ w.cell? ⟨ad.block, ad.off + 2, none⟩ = some (.slice A2 x.f0.f2.length c2) ∧ w.cell? ⟨ad.block, ad.off + 3, none⟩ = some (.string x.f0.f3) ∧ w.cell? ⟨ad.block, ad.off + 4, none⟩ = some (.bool x.f0.f4) ∧ w.cell? ⟨ad.block, ad.off + 5, none⟩ = some (.int .i64 x.f1) ∧ x.f0.f2.length ≤ c2 ∧ k38.C w A2 x.f0.f2.length x.f0.f2 := by
  obtain ⟨A, c, rfl, hle, hC⟩ := Kd.R_reads h
  obtain ⟨ad, A2, c2, rfl, h0, h1, h2, h3, h4, h5, h6, h7⟩ := at_T53 hC 0 (by omega) (by simp)
  have hr : rd_T53 [x] 0 = x := rfl
  have ha : ad.add ((0 : Int).toNat * 6) = ad := by simp [Addr.add]
  rw [hr] at h0 h1 h2 h3 h4 h5 h6 h7
  rw [ha] at h0 h1 h2 h3 h4 h5
  exact ⟨ad, c, A2, c2, rfl, h0, h1, h2, h3, h4, h5, h6, h7⟩
set_option maxRecDepth 100000 in
set_option maxHeartbeats 400000 in
theorem leftQ_calls {w : World} {S : Nat → Prop} {g : Nat} {s : Option Rd} {N : Nat} (h : RdS w S g s) (hf : FdS N s) (hN : N ≤ 1000000000) :
    Calls Tryz.prog 25 #[.pointer (some ⟨g, 0, none⟩)] w fun e w' => e = .returned (.int .i64 (leftS s)) ∧ ∃ m, w' = w.drewN m := by
  cases s with
  | none =>
    refine (left_over (OverAt.cell2 h)).mono ?_
    rintro e w' ⟨rfl, rfl⟩
    exact ⟨rfl, 0, rfl⟩
  | some r =>
    have hu := hf.1.base.used
    have hu0 := hf.1.base.used0
    have hx := hf.1.live
    obtain ⟨ht, vw, vh, vb, h⟩ := h
    obtain ⟨Aw, cw, rfl, _⟩ := h.wait.sl
    have k0 := cell_of_heap h.cells 0 (.slice Aw r.wait.length cw) rfl
    have k1 := cell_of_heap h.cells 1 (.int .i64 r.used) rfl
    have k2 := cell_of_heap h.cells 2 (r.nx.val g) rfl
    clear h hf
    show Calls Tryz.prog 25 #[.pointer (some ⟨g, 0, none⟩)] w fun e w' => e = .returned (.int .i64 (r.used + r.wait.length)) ∧ ∃ m, w' = w.drewN m
    go_enter Tryz.func25, Tryz.ntmps25
    go_wp2_with fail
    refine (over_calls r.nx k2).mono ?_
    rintro e w1 ⟨rfl, rfl⟩
    have hov : r.nx.isOver = false := by cases hq : r.nx <;> first | exact absurd hq hx | rfl
    rw [hov]
    go_wp2_with fail
    go_quiet (fail)
    go_wp2_with fail
    go_ret
    exact ⟨rfl, _, rfl⟩
/-- What Print leaves. -/
def PrintPost (w : World) (q : S24) (e : Ending) (w' : World) : Prop := Below w.heap.size w w' ∧ ((PrintsQ q ∧ e = .returned (.tuple #[.string (str (textF q)), .int .i64 0])) ∨ (¬ PrintsQ q ∧ e = .returned (.tuple #[.string ⟨#[]⟩, .int .i64 2])))
def Says (q : S24) (v : Value) : Prop := ∃ bb, v = .bool bb ∧ (bb = false ↔ PrintsQ q)
theorem PrintsQ.iff {q : S24} {x : S53} (h : (feedS (some Rd.new) (textF q)).1 = [x]) (h2 : leftS (feedS (some Rd.new) (textF q)).2 = 0) (h3 : x.f1 = 0) : PrintsQ q ↔ x.f0 = q := by
  unfold PrintsQ
  rw [h]
  constructor
  · rintro ⟨a, _⟩
    injection a with a
    rw [a]
  · intro e
    refine ⟨?_, h2⟩
    rw [← e, ← h3]
set_option maxRecDepth 100000 in
set_option maxHeartbeats 3200000 in
theorem print_calls {w : World} (hG : Glob w) (h9 : 9 ≤ w.heap.size) (q : S24) (A : Option Addr) (c : Nat) (hC : k38.C w A q.f2.length q.f2) (hc : q.f2.length ≤ c) (hw : wt q ≤ 100000) :
    Calls Tryz.prog 28 #[.agg #[.string q.f0, .string q.f1, .slice A q.f2.length c, .string q.f3, .bool q.f4]] w (PrintPost w q) := by
  have HG := Aside0.mk hG
  have HC := Aside0.mk hC
  have hm : q.f2.length ≤ 9223372036854775807 := hC.2.1
  have b0 : q.f0.size + q.f1.size ≤ 100000 := by unfold wt at hw; omega
  have b3 : q.f3.size ≤ 100000 := by unfold wt at hw; omega
  have LEN := Aside0.mk (textF_le q)
  have WT := Aside0.mk hw
  clear hG hC hw
  go_enter Tryz.func28, Tryz.ntmps28
  go_wp2_with fail
  have S0 := Aside0.mk (SbAt.fresh (w.alloc (.cells #[.string q.f0, .string q.f1, .slice A q.f2.length c, .string q.f3, .bool q.f4] 24)))
  have hq0 := heap_alloc_new w (.cells #[.string q.f0, .string q.f1, .slice A q.f2.length c, .string q.f3, .bool q.f4] 24)
  have hq1 := (Lib.alloc_old (w.alloc (.cells #[.string q.f0, .string q.f1, .slice A q.f2.length c, .string q.f3, .bool q.f4] 24)) (.cells #[.pointer none, .slice none 0 0] 99) w.heap.size (by simp)).trans hq0
  have B0 := Aside0.mk (((Below.refl w.heap.size w).alloc (Nat.le_refl _) (.cells #[.string q.f0, .string q.f1, .slice A q.f2.length c, .string q.f3, .bool q.f4] 24)).alloc (by simp) (.cells #[.pointer none, .slice none 0 0] 99))
  have Q0 := Aside0.mk hq1
  have hsz : (w.alloc (.cells #[.string q.f0, .string q.f1, .slice A q.f2.length c, .string q.f3, .bool q.f4] 24)).heap.size = w.heap.size + 1 := by simp
  rw [hsz] at S0
  have hsz2 : ((w.alloc (.cells #[.string q.f0, .string q.f1, .slice A q.f2.length c, .string q.f3, .bool q.f4] 24)).alloc (.cells #[.pointer none, .slice none 0 0] 99)).heap.size = w.heap.size + 2 := by simp
  have SZ2 := Aside0.mk hsz2
  clear hq0 hq1 hsz hsz2
  revert S0 B0 Q0 SZ2
  generalize ((w.alloc (.cells #[.string q.f0, .string q.f1, .slice A q.f2.length c, .string q.f3, .bool q.f4] 24)).alloc (.cells #[.pointer none, .slice none 0 0] 99)) = W1
  intro S0 B0 Q0 SZ2
  have hsz1 : (q.f0 ++ ⟨#[32]⟩ ++ q.f1 ++ ⟨#[32, 72, 84, 84, 80, 47, 49, 46, 49, 13, 10]⟩).size ≤ 200000 := by
    have h1 := part_le q 0
    have := LEN.out
    have := WT.out
    rw [← bl_length, headS]
    rw [List.length_append] at h1
    omega
  refine (writeS_calls S0.out _ (by simp only [List.length_nil]; omega) (by have := SZ2.out; omega)).mono ?_
  rintro e w1 ⟨rfl, hS1, hB1⟩
  rw [headS, List.nil_append] at hS1
  have S1 := Aside0.mk hS1
  have B1 := Aside0.mk (B0.out.trans (hB1.mono (by omega)))
  have Z1 := Aside0.mk (show w.heap.size + 2 ≤ w1.heap.size from by have := hB1.size; have := SZ2.out; omega)
  have hq1 := (hB1.block w.heap.size (by omega)).trans Q0.out
  have Q1 := Aside0.mk hq1
  have k2 := cell_of_heap hq1 2 (.slice A q.f2.length c) rfl
  clear hS1 hB1 S0 B0 Q0 SZ2 hsz1 hq1
  go_wp2_with fail
  go_loopw [20] (fun i wr => ∃ k : Nat, k ≤ q.f2.length ∧ i = .int .i64 k ∧ Aside0 (SbAt wr (w.heap.size + 1) (w.heap.size + 1) (headT q ++ (q.f2.take k).flatMap hdrT)) ∧ Aside0 (Below (w.heap.size + 1) w1 wr)) (fun i _ => q.f2.length - (intOf i).toNat)
  case atStart => exact ⟨0, Nat.zero_le _, rfl, ⟨by simpa using S1.out⟩, ⟨Below.refl _ _⟩⟩
  case round =>
    obtain ⟨k, hk, rfl, hS, hB⟩ := hrel
    have zr := hB.out.size
    by_cases hlt : k < q.f2.length
    · obtain ⟨p, hp⟩ : ∃ p, q.f2[k]? = some p := ⟨_, List.getElem?_eq_getElem hlt⟩
      have BW := Aside0.mk (B1.out.trans (hB.out.mono (Nat.le_succ _)))
      obtain ⟨ad, hA, c0, c1⟩ := at_T38 (Kd.C_below HC.out BW.out) (k : Int) (by omega) (by omega)
      have hr : rd_T38 q.f2 (k : Int) = p := by simp [rd_T38, hp]
      rw [hr, Int.toNat_natCast] at c0 c1
      subst hA
      have hwg := hwt_get hp
      have hb2 : p.f0.size + p.f1.size ≤ 100000 := by have := WT.out; unfold wt at this; omega
      have hsn : (q.f2.take (k + 1)).flatMap hdrT = (q.f2.take k).flatMap hdrT ++ hdrT p := by
        rw [take_snoc q.f2 k p hp, List.flatMap_append]; simp
      have SN := Aside0.mk hsn
      have PL := Aside0.mk (part_le q k)
      have SM := Aside0.mk (hS.out.move ((Below.refl wr.heap.size wr).alloc (Nat.le_refl _) (.cells #[.string p.f0, .string p.f1] 38)))
      have hszp : (p.f0 ++ ⟨#[58, 32]⟩ ++ p.f1 ++ ⟨#[13, 10]⟩).size ≤ 200000 := by
        simp only [ByteArray.size_append]
        have e1 : (⟨#[58, 32]⟩ : ByteArray).size = 2 := rfl
        have e2 : (⟨#[13, 10]⟩ : ByteArray).size = 2 := rfl
        omega
      clear hr hp hsn hwg k2
      go_wp2_with fail
      refine (writeS_calls SM.out _ (by have := PL.out; have := LEN.out; have := WT.out; omega) (by have := Z1.out; simp; omega)).mono ?_
      rintro e w3 ⟨rfl, hS3, hB3⟩
      rw [hdrS] at hS3
      have S3 := Aside0.mk hS3
      have B3 := Aside0.mk ((hB.out.alloc (by have := Z1.out; omega) (.cells #[.string p.f0, .string p.f1] 38)).trans hB3)
      clear hS3 hB3 hszp
      go_wp2_with fail
      go_roundw
      case rel => exact ⟨k + 1, by omega, by go_num, ⟨by rw [SN.out, ← List.append_assoc]; exact S3.out⟩, B3⟩
      case measure => simp [intOf]; omega
    · obtain rfl : k = q.f2.length := by omega
      have S4 := Aside0.mk hS.out
      rw [List.take_of_length_le (Nat.le_refl _)] at S4
      have hq2 := (hB.out.block w.heap.size (by omega)).trans Q1.out
      have Q2 := Aside0.mk hq2
      have B4 := Aside0.mk (B1.out.trans (hB.out.mono (Nat.le_succ _)))
      have Z4 := Aside0.mk (Nat.le_trans Z1.out zr)
      have k3 := cell_of_heap hq2 3 (.string q.f3) rfl
      have PL := Aside0.mk (part_le q q.f2.length)
      have hszt : (⟨#[13, 10]⟩ ++ q.f3).size ≤ 100002 := by
        rw [ByteArray.size_append]
        have e2 : (⟨#[13, 10]⟩ : ByteArray).size = 2 := rfl
        omega
      clear hS hB hq2 k2 S1
      go_wp2_with fail
      refine (writeS_calls S4.out _ (by have h1 := PL.out; rw [List.take_of_length_le (Nat.le_refl _)] at h1; have := LEN.out; have := WT.out; omega) (by have := Z4.out; omega)).mono ?_
      rintro e w5 ⟨rfl, hS5, hB5⟩
      rw [tailS, List.append_assoc] at hS5
      have S5 := Aside0.mk (show SbAt w5 (w.heap.size + 1) (w.heap.size + 1) (textF q) from hS5)
      have B5 := Aside0.mk (B4.out.trans (hB5.mono (Nat.le_succ _)))
      have hq5 := (hB5.block w.heap.size (by omega)).trans Q2.out
      have Q5 := Aside0.mk hq5
      have Z5 := Aside0.mk (Nat.le_trans Z4.out hB5.size)
      clear hS5 hB5 hszt hq5 k3 S4 B4 Z4 Q2 Q1
      go_wp2_with fail
      refine (new_calls (S := fun k => w5.heap.size ≤ k) (fun k hk => hk)).mono ?_
      rintro e w6 ⟨rfl, hB6, h6⟩
      have D6 := Aside0.mk (show RdS w6 (fun k => w5.heap.size ≤ k ∧ k < w6.heap.size) w5.heap.size (some Rd.new) from RdS.within (s := some Rd.new) ⟨rfl, _, _, _, h6⟩)
      have htn : textF q ≠ [] := by unfold textF headT; simp
      have TN := Aside0.mk htn
      obtain ⟨hlb, g, hgB, hlg, hrd⟩ := S5.out.rd htn
      have SR := Aside0.mk (hrd.move (hB6.block _ hlb) (hB6.block _ hlg))
      have G := Aside0.mk (And.intro hlb (And.intro hgB hlg))
      have z6 : w5.heap.size < w6.heap.size := D6.out.own.2
      have Q6 := Aside0.mk ((hB6.block w.heap.size (by have := Z5.out; omega)).trans Q5.out)
      have B6 := Aside0.mk (below_step B5.out hB6)
      have TL := Aside0.mk (show (textF q).length ≤ 100014 from by have := LEN.out; have := WT.out; omega)
      clear hB6 h6 htn hlb hgB hlg hrd S5 Q5
      go_wp2_with fail
      refine (string_calls SR.out TN.out (by have := TL.out; omega)).mono ?_
      rintro e w7 ⟨rfl, hS7, hF7⟩
      have kb : ∀ W, (convert 9 40 (.string (str (textF q)))).run Tryz.prog W = .ok (.slice (some ⟨W.heap.size, 0, none⟩) (textF q).length (grownCap W (textF q).length 0 5)) (Lib.bytesWorld W 5 (str (textF q))) := fun W => print_bytes (P := Tryz.prog) 9 40 5 Tryz.underlying9 Tryz.underlying40 Tryz.underlying5 (str (textF q)) W
      have S7 := Aside0.mk hS7
      have F7 := Aside0.mk hF7
      have z7 := hF7.size
      have hzg := G.out
      have D7 := Aside0.mk (D6.out.move hF7.size (fun k hk hl => hF7.block k hl (by omega)))
      have Q7 := Aside0.mk ((hF7.block w.heap.size (by have := Z5.out; omega) (by omega)).trans Q6.out)
      have B7 := Aside0.mk (((Frame.of_below (S := fun k => w.heap.size ≤ k) B6.out).trans (hF7.mono fun k _ hk => by omega)).below (fun k hk => hk))
      have hb8 := bytes_below (Below.refl w7.heap.size w7) (Nat.le_refl _) 5 (str (textF q))
      have C8 := Aside0.mk (show (Kd.int .u8).C (Lib.bytesWorld w7 5 (str (textF q))) (some ⟨w7.heap.size, 0, none⟩) (textF q).length (ints (textF q)) from Kd.C_of_reads (d := (0 : Int)) (h1 := fun _ => rfl) (bytes_reads w7 5 (str (textF q)) (by rw [str_size]; have := TL.out; omega)))
      have Z8 := Aside0.mk (Lib.bytesWorld_size w7 5 (str (textF q)))
      have B8 := Aside0.mk hb8
      clear hS7 hF7 hb8 D6 Q6 B6 SR hzg
      go_wp2_with fail
      clear kb
      revert C8 Z8 B8
      generalize Lib.bytesWorld w7 5 (str (textF q)) = W8
      generalize grownCap w7 (textF q).length 0 5 = cap8
      intro C8 Z8 B8
      have z8 := Z8.out
      have D8 := Aside0.mk ((D7.out.move B8.out.size (fun k hk hl => B8.out.block k hl)).grow (S' := fun k => (w5.heap.size ≤ k ∧ k < w6.heap.size) ∨ W8.heap.size ≤ k) (fun k hk => .inl hk))
      have S8 := Aside0.mk (S7.out.move (B8.out.block _ S7.out.lt.1) (B8.out.block _ S7.out.lt.2))
      have Q8 := Aside0.mk ((B8.out.block w.heap.size (by have := Z5.out; omega)).trans Q7.out)
      have BW8 := Aside0.mk (below_step B7.out B8.out)
      have Z8 := z8
      clear D7 S7 Q7 B7
      refine (feedS_calls D8.out (N := 0) Fd.new C8.out ?_ (fun k hk => .inr hk) (fun k hk => by have := Z5.out; omega) (HG.out.below BW8.out) (by have := TL.out; omega)).mono ?_
      · intro h0 a ha
        cases ha
        show w7.heap.size ≠ w5.heap.size
        omega
      rintro e w9 ⟨hF9, vo, rfl, hout⟩
      obtain ⟨T9, hR9, hT9, hrd9⟩ := RdS.of_out hout
      have hzg := G.out
      have z5 := Z5.out
      have S9 := Aside0.mk (S8.out.move (hF9.block _ S8.out.lt.1 (by omega)) (hF9.block _ S8.out.lt.2 (by omega)))
      have Q9 := Aside0.mk ((hF9.block w.heap.size (by omega) (by omega)).trans Q8.out)
      have B9 := Aside0.mk (((Frame.of_below (S := fun k => w.heap.size ≤ k) BW8.out).trans (hF9.mono fun k _ hk => by omega)).below (fun k hk => hk))
      have R9 := Aside0.mk hR9
      have RD9 := Aside0.mk hrd9
      have z9 := hF9.size
      have FS := Aside0.mk (show FdS 1000000 (feedS (some Rd.new) (textF q)).2 from FdS.mono (FdS.feed (N := 0) (s := some Rd.new) Fd.new (textF q) (by have := TL.out; omega)) (by have := TL.out; omega))
      obtain ⟨L, hL⟩ : ∃ L, L = (feedS (some Rd.new) (textF q)).1 := ⟨_, rfl⟩
      obtain ⟨sx, hsx⟩ : ∃ sx, sx = (feedS (some Rd.new) (textF q)).2 := ⟨_, rfl⟩
      rw [← hL] at R9 hR9
      rw [← hsx] at RD9 FS
      have HL := Aside0.mk hL
      have HSX := Aside0.mk hsx
      clear hL hsx
      obtain ⟨A8, c8, rfl⟩ := R_slice hR9
      clear hF9 hout hR9 hT9 hrd9 D8 S8 Q8 BW8 C8 B8 hzg
      go_upto_region 11 with fail
      go_cut [65] (fun v wx => Aside0 (Says q v ∧ Below w9.heap.size w9 wx))
      case first =>
        by_cases h1 : L.length = 1
        · obtain ⟨x, rfl⟩ : ∃ x, L = [x] := List.length_eq_one_iff.1 h1
          obtain ⟨ad, c8', A2, c2, he, q0, q1, q2, q3, q4, q5, q6, q7⟩ := one_ev R9.out
          injection he with he1 _ he3
          subst he1 he3
          have E0 := Aside0.mk q0
          have E1 := Aside0.mk q1
          have E2 := Aside0.mk q2
          have E3 := Aside0.mk q3
          have E4 := Aside0.mk q4
          have E5 := Aside0.mk q5
          have E6 := Aside0.mk q6
          have E7 := Aside0.mk q7
          clear q0 q1 q2 q3 q4 q5 q6 q7
          have RDD := Aside0.mk (RD9.out.move (w1 := w9.drew) (Nat.le_refl _) (fun _ _ _ => rfl))
          by_cases h2 : leftS sx = 0
          · have h2b : (leftS sx != 0) = false := by rw [h2]; rfl
            have H2 := Aside0.mk h2
            clear h2
            by_cases h3 : x.f1 = 0
            · have H3 := Aside0.mk h3
              replace E5 := Aside0.mk (show w9.cell? ⟨ad.block, ad.off + 5, none⟩ = some (.int .i64 0) from by rw [← h3]; exact E5.out)
              clear h3
              have HI := Aside0.mk (PrintsQ.iff HL.out.symm (by rw [← HSX.out]; exact H2.out) H3.out)
              by_cases hq : x.f0 = q
              · have HQ := Aside0.mk hq
                clear hq
                first
                | go_region_law (first
                  | (go_simp
                     go_at_call 25
                     refine (leftS_calls RDD.out FS.out (by omega)).mono ?_
                     rintro e w10 ⟨rfl, hB10⟩
                     have B10 := Aside0.mk (show Below w9.heap.size w9 w10 from ⟨hB10.os, hB10.tape, hB10.output, hB10.size, hB10.block⟩)
                     have p0 := pw_cell_below B10.out E0.out
                     have p1 := pw_cell_below B10.out E1.out
                     have p2 := pw_cell_below B10.out E2.out
                     have p3 := pw_cell_below B10.out E3.out
                     have p4 := pw_cell_below B10.out E4.out
                     have p5 := pw_cell_below B10.out E5.out
                     have hq10 := (B10.out.block w.heap.size (by omega)).trans Q9.out
                     have r0 := cell_of_heap hq10 0 (.string q.f0) rfl
                     have r1 := cell_of_heap hq10 1 (.string q.f1) rfl
                     have r2 := cell_of_heap hq10 2 (.slice A q.f2.length c) rfl
                     have r3 := cell_of_heap hq10 3 (.string q.f3) rfl
                     have r4 := cell_of_heap hq10 4 (.bool q.f4) rfl
                     clear hB10 hq10)
                  | (go_simp
                     go_at_call 48
                     refine (same_calls x.f0 q (Kd.C_below E7.out B10.out) E6.out (Kd.C_below HC.out (below_step B9.out B10.out)) hc).mono ?_
                     rintro e w11 ⟨⟨r, rfl, hr⟩, hB11⟩
                     have B11 := Aside0.mk (below_step B10.out hB11)
                     obtain rfl : r = true := hr.2 HQ.out
                     clear hB11 hr p0 p1 p2 p3 p4 p5 r0 r1 r2 r3 r4))
                | fail
                all_goals
                  simp only [Act.put, List.getElem_toArray, List.getElem_cons_succ, List.getElem_cons_zero, List.setIfInBounds_toArray, List.set_cons_succ, List.set_cons_zero]
                  go_wp2_with fail
                  go_meet
                  exact ⟨⟨false, rfl, ⟨fun _ => HI.out.2 HQ.out, fun _ => rfl⟩⟩, B11.out⟩
              · have HQ := Aside0.mk hq
                clear hq
                first
                | go_region_law (first
                  | (go_simp
                     go_at_call 25
                     refine (leftS_calls RDD.out FS.out (by omega)).mono ?_
                     rintro e w10 ⟨rfl, hB10⟩
                     have B10 := Aside0.mk (show Below w9.heap.size w9 w10 from ⟨hB10.os, hB10.tape, hB10.output, hB10.size, hB10.block⟩)
                     have p0 := pw_cell_below B10.out E0.out
                     have p1 := pw_cell_below B10.out E1.out
                     have p2 := pw_cell_below B10.out E2.out
                     have p3 := pw_cell_below B10.out E3.out
                     have p4 := pw_cell_below B10.out E4.out
                     have p5 := pw_cell_below B10.out E5.out
                     have hq10 := (B10.out.block w.heap.size (by omega)).trans Q9.out
                     have r0 := cell_of_heap hq10 0 (.string q.f0) rfl
                     have r1 := cell_of_heap hq10 1 (.string q.f1) rfl
                     have r2 := cell_of_heap hq10 2 (.slice A q.f2.length c) rfl
                     have r3 := cell_of_heap hq10 3 (.string q.f3) rfl
                     have r4 := cell_of_heap hq10 4 (.bool q.f4) rfl
                     clear hB10 hq10)
                  | (go_simp
                     go_at_call 48
                     refine (same_calls x.f0 q (Kd.C_below E7.out B10.out) E6.out (Kd.C_below HC.out (below_step B9.out B10.out)) hc).mono ?_
                     rintro e w11 ⟨⟨r, rfl, hr⟩, hB11⟩
                     have B11 := Aside0.mk (below_step B10.out hB11)
                     obtain rfl : r = false := by cases r with | true => exact absurd (hr.1 rfl) HQ.out | false => rfl
                     clear hB11 hr p0 p1 p2 p3 p4 p5 r0 r1 r2 r3 r4))
                | fail
                all_goals
                  simp only [Act.put, List.getElem_toArray, List.getElem_cons_succ, List.getElem_cons_zero, List.setIfInBounds_toArray, List.set_cons_succ, List.set_cons_zero]
                  go_wp2_with fail
                  go_meet
                  exact ⟨⟨true, rfl, ⟨(fun h => by cases h), (fun h => absurd (HI.out.1 h) HQ.out)⟩⟩, B11.out⟩
            · have H3 := Aside0.mk h3
              obtain ⟨z, hz⟩ : ∃ z, z = x.f1 := ⟨_, rfl⟩
              replace E5 := Aside0.mk (show w9.cell? ⟨ad.block, ad.off + 5, none⟩ = some (.int .i64 z) from by rw [hz]; exact E5.out)
              rw [← hz] at h3
              have h3b : (z != 0) = true := by simpa using h3
              have h3c : (z == 0) = false := by simpa using h3
              have h3d : decide (z = 0) = false := by simpa using h3
              clear hz
              first
              | go_region_law (first
                  | (go_simp
                     go_at_call 25
                     refine (leftS_calls RDD.out FS.out (by omega)).mono ?_
                     rintro e w10 ⟨rfl, hB10⟩
                     have B10 := Aside0.mk (show Below w9.heap.size w9 w10 from ⟨hB10.os, hB10.tape, hB10.output, hB10.size, hB10.block⟩)
                     have p5 := pw_cell_below B10.out E5.out
                     clear hB10))
              | fail
              all_goals
                simp only [Act.put, List.getElem_toArray, List.getElem_cons_succ, List.getElem_cons_zero, List.setIfInBounds_toArray, List.set_cons_succ, List.set_cons_zero]
                go_wp2_with fail
                go_meet
                refine ⟨⟨true, rfl, ?_⟩, B10.out⟩
                simp only [Bool.true_eq_false, false_iff]
                intro hP
                have h4 := hP.1
                rw [← HL.out] at h4
                injection h4 with h4
                exact H3.out (by rw [h4])
          · have H2 := Aside0.mk h2
            have h2b : (leftS sx != 0) = true := by simpa using h2
            clear h2
            first
            | go_region_law (first
                  | (go_simp
                     go_at_call 25
                     refine (leftS_calls RDD.out FS.out (by omega)).mono ?_
                     rintro e w10 ⟨rfl, hB10⟩
                     have B10 := Aside0.mk (show Below w9.heap.size w9 w10 from ⟨hB10.os, hB10.tape, hB10.output, hB10.size, hB10.block⟩)
                     have p5 := pw_cell_below B10.out E5.out
                     clear hB10))
            | fail
            all_goals
              simp only [Act.put, List.getElem_toArray, List.getElem_cons_succ, List.getElem_cons_zero, List.setIfInBounds_toArray, List.set_cons_succ, List.set_cons_zero]
              go_wp2_with fail
              go_meet
              refine ⟨⟨true, rfl, ?_⟩, B10.out⟩
              simp only [Bool.true_eq_false, false_iff]
              intro hP
              exact H2.out (by rw [HSX.out]; exact hP.2)
        · have H1 := Aside0.mk h1
          have h1b : ((L.length : Int) != 1) = true := by
            rw [bne_iff_ne]; omega
          clear h1
          first
          | go_region_law (fail)
          | fail
          all_goals
            simp only [Act.put, List.getElem_toArray, List.getElem_cons_succ, List.getElem_cons_zero, List.setIfInBounds_toArray, List.set_cons_succ, List.set_cons_zero]
            go_wp2_with fail
            go_meet
            refine ⟨⟨true, rfl, ?_⟩, below_drew (Below.refl _ _)⟩
            simp only [Bool.true_eq_false, false_iff]
            intro hP
            have h4 := hP.1
            rw [← HL.out] at h4
            exact H1.out (by rw [h4]; rfl)
      case rest =>
        obtain ⟨⟨bb, rfl, hbb⟩, hB10⟩ := hcut.out
        have BW := Aside0.mk (below_step B9.out hB10)
        have S10 := Aside0.mk (S9.out.move (hB10.block _ S9.out.lt.1) (hB10.block _ S9.out.lt.2))
        have hzg := G.out
        have z10 := hB10.size
        clear hcut hB10
        cases bb with
        | true =>
          have NP := Aside0.mk (show ¬ PrintsQ q from fun h => by have := hbb.2 h; cases this)
          clear hbb
          go_wp2_with fail
          go_ret2
          exact ⟨BW.out, .inr ⟨NP.out, rfl⟩⟩
        | false =>
          have YP := Aside0.mk (hbb.1 rfl)
          clear hbb
          go_wp2_with fail
          refine (string_calls S10.out TN.out (by have := TL.out; omega)).mono ?_
          rintro e w11 ⟨rfl, hS11, hF11⟩
          have B11 := Aside0.mk (((Frame.of_below (S := fun k => w.heap.size ≤ k) BW.out).trans (hF11.mono fun k _ hk => by omega)).below (fun k hk => hk))
          clear hS11 hF11
          go_wp2_with fail
          go_ret2
          exact ⟨B11.out, .inl ⟨YP.out, rfl⟩⟩
end Go.Proofs.YtafhkpnmolfjeaaGreatDoor.Rq
