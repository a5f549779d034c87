/- Walk of the law's lives. -/
import Derived.Test.YtafhkpnmolfjeaaGreatDoorRqI
set_option linter.unusedVariables false
set_option linter.unusedSimpArgs false
namespace Go.Proofs.YtafhkpnmolfjeaaGreatDoor.Rq
open Go.RowKit Go.Proofs.YtafhkpnmolfjeaaGreatDoorW.PrintWords Go.Proofs.YtafhkpnmolfjeaaGreatDoor.PRequestBack

theorem FedAt.cell2 {w : World} {S : Nat → Prop} {g : Nat} {r : Rd} (h : FedAt w S g r) : w.cell? ⟨g, 2, none⟩ = some (r.nx.val g) := by
  obtain ⟨_, vw, vh, vb, h⟩ := h
  exact cell_of_heap h.cells 2 (r.nx.val g) rfl
theorem OverAt.cell2 {w : World} {S : Nat → Prop} {g : Nat} (h : OverAt w S g) : w.cell? ⟨g, 2, none⟩ = some .nilFunc := by
  obtain ⟨_, cs, hc, h2⟩ := h
  exact cell_of_heap hc 2 _ h2
theorem FedAt.move {w w1 : World} {S : Nat → Prop} {g : Nat} {r : Rd} (h : FedAt w S g r) (hB : Below w.heap.size w w1) : FedAt w1 S g r := by
  obtain ⟨ht, vw, vh, vb, h⟩ := h
  exact ⟨ht, vw, vh, vb, h.move hB.size (fun k _ hk => hB.block k hk)⟩
theorem FedAt.lt {w : World} {S : Nat → Prop} {g : Nat} {r : Rd} (h : FedAt w S g r) : g < w.heap.size := by
  obtain ⟨_, vw, vh, vb, h⟩ := h
  exact h.lt
/-- The one event of a list, as it lies. -/
theorem one_event {w : World} {T : Nat → Prop} {v : Value} {x : S53} (h : k53.R 53 w 0 T v [x]) : ∃ ad c, v = .slice (some ad) 1 c ∧ w.cell? ad = some (.string x.f0.f0) ∧ w.cell? ⟨ad.block, ad.off + 4, none⟩ = some (.bool x.f0.f4) ∧ w.cell? ⟨ad.block, ad.off + 5, none⟩ = some (.int .i64 x.f1) := by
  obtain ⟨A, c, rfl, hle, hC⟩ := Kd.R_reads h
  obtain ⟨ad, A2, c2, rfl, h0, _, _, _, h4, h5, _⟩ := at_T53 hC 0 (by omega) (by simp)
  have hr : rd_T53 [x] 0 = x := rfl
  have ha : ad.add ((0 : Int).toNat * 6) = ad := by simp [Addr.add]
  rw [hr, ha] at h0 h4 h5
  exact ⟨ad, c, rfl, h0, h4, h5⟩
theorem feed_lit {w0 w1 : World} {g : Nat} {r : Rd} (hF : Frame (fun k => w0.heap.size ≤ k) w0 w1) (h : FedAt w1 (fun k => w0.heap.size ≤ k) g r) (hG : Glob w0) (h9 : 9 ≤ w0.heap.size) (bs : List UInt8) (hl : bs.length ≤ 1000000) (fr : Nat × Nat) (c : Nat)
    (hw : r.wait.length ≤ 1000000) {n : Nat} {L : List S53} {O : Option Rd} (hr : Run n { r with wait := r.wait ++ bs } L O) :
    Calls Tryz.prog 23 #[.pointer (some ⟨g, 0, none⟩), .slice (some ⟨w1.heap.size, 0, none⟩) bs.length c] (w1.alloc (.cells (lit bs) 5 fr)) fun e w' => Frame (fun k => w0.heap.size ≤ k) w0 w' ∧ ∃ vo, e = .returned vo ∧ OutAt w' (fun k => w0.heap.size ≤ k) g vo L O := by
  have hB : Below w1.heap.size w1 (w1.alloc (.cells (lit bs) 5 fr)) := (Below.refl _ _).alloc (Nat.le_refl _) _
  have hF1 := hF.trans (Frame.of_below (S := fun k => w0.heap.size ≤ k) hB)
  refine (feed_calls (h.move hB) (C_lit w1 bs fr hl) (fun a ha => by cases ha; exact Nat.ne_of_gt h.lt) (fun k hk => Nat.le_trans hF1.size hk) (fun k hk => Nat.le_trans h9 hk) (hG.frame hF1 (fun k hk => Nat.le_trans h9 hk)) (by omega) hr).mono ?_
  rintro e w' ⟨hf, vo, he, ho⟩
  exact ⟨hF1.trans hf, vo, he, ho⟩
set_option maxRecDepth 100000 in
set_option maxHeartbeats 1600000 in
theorem lives_calls {w : World} (hG : Glob w) (h9 : 9 ≤ w.heap.size) :
    Calls Tryz.prog 20 #[] w fun e w' => e = .returned (.bool true) ∧ Below w.heap.size w w' := by
  have hU : ∀ k, w.heap.size ≤ k → w.heap.size ≤ k := fun k hk => hk
  have hS : ∀ k, w.heap.size ≤ k → 9 ≤ k := fun k hk => by omega
  have HG := Aside0.mk hG
  have cv := conv40
  clear hG
  go_enter Tryz.func20, Tryz.ntmps20
  go_wp2_with fail
  refine (new_calls (S := fun k => w.heap.size ≤ k) hU).mono ?_
  rintro e w1 ⟨rfl, hB1, h1⟩
  have H1 := Aside0.mk (show FedAt w1 (fun k => w.heap.size ≤ k) w.heap.size Rd.new from ⟨rfl, _, _, _, h1⟩)
  have HB1 := Aside0.mk hB1
  clear h1 hB1
  go_wp2_with fail
  refine (feed_lit (Frame.of_below HB1.out) H1.out HG.out h9 line1 (by decide) (16, 17) 16 (by decide) run1).mono ?_
  rintro e w2 ⟨hF2, vo2, rfl, T2, hR2, _, h2⟩
  obtain ⟨A2, c2, rfl⟩ := R_slice hR2
  have H2 := Aside0.mk (show FedAt w2 _ _ rd1 from h2)
  have HF2 := Aside0.mk hF2
  clear hF2 hR2 h2 H1 HB1
  go_wp2_with fail
  refine (feed_lit HF2.out H2.out HG.out h9 line2 (by decide) (2, 3) 2 (by decide) run2).mono ?_
  rintro e w3 ⟨hF3, vo3, rfl, T3, hR3, _, h3⟩
  obtain ⟨ad3, c3, rfl, q0, q4, _⟩ := one_event hR3
  have H3 := Aside0.mk (show FedAt w3 _ _ Rd.new from h3)
  have HF3 := Aside0.mk hF3
  have hev : ev2.f0.f0 = ⟨#[71, 69, 84]⟩ := rfl
  have hev4 : ev2.f0.f4 = true := rfl
  rw [hev] at q0
  rw [hev4] at q4
  clear hF3 hR3 h3 H2 HF2
  go_wp2_with fail
  refine (over_calls .head H3.out.cell2).mono ?_
  rintro e w4 ⟨rfl, rfl⟩
  clear q0 q4
  go_wp2_with fail
  refine (feed_lit HF3.out H3.out HG.out h9 line3 (by decide) (16, 17) 16 (by decide) run3).mono ?_
  rintro e w5 ⟨hF5, vo5, rfl, T5, hR5, _, h5⟩
  obtain ⟨ad5, c5, rfl, _, _, q5⟩ := one_event hR5
  have H5 := Aside0.mk (show OverAt w5 _ _ from h5)
  have HF5 := Aside0.mk hF5
  replace q5 : w5.cell? ⟨ad5.block, ad5.off + 5, none⟩ = some (.int .i64 400) := q5
  clear hF5 hR5 h5 H3 HF3
  go_wp2_with fail
  refine (over_calls .over H5.out.cell2).mono ?_
  rintro e w6 ⟨rfl, rfl⟩
  go_wp2_with fail
  refine (left_over H5.out.cell2).mono ?_
  rintro e w7 ⟨rfl, rfl⟩
  go_wp2_with fail
  go_ret
  exact ⟨rfl, HF5.out.below (fun k hk => hk)⟩
end Go.Proofs.YtafhkpnmolfjeaaGreatDoor.Rq
