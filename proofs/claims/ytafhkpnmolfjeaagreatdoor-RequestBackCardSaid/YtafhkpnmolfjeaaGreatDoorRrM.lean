/- Walk of RequestBack. -/
import Derived.Test.YtafhkpnmolfjeaaGreatDoorRrL
import Derived.Deep.DeepCutAuto
import Derived.Deep.RegionLaw
import Derived.Deep.QuietTactic
import Derived.BigQuiet
set_option linter.unusedVariables false
set_option linter.unusedSimpArgs false
namespace Go.Proofs.YtafhkpnmolfjeaaGreatDoor.Rq
open Go.RowKit Go.Proofs.YtafhkpnmolfjeaaGreatDoorW.PrintWords Go.Proofs.YtafhkpnmolfjeaaGreatDoor.PRequestBack

theorem fds_big (t : List UInt8) (h : t.length ≤ 1000000) : FdS 1000000 (feedS (some Rd.new) t).2 := FdS.mono (FdS.feed (N := 0) (s := some Rd.new) Fd.new t (by omega)) (by omega)
/-- What holds at the head of a round. -/
structure BkAt (w wr : World) (v3 v4 : Value) (k : Nat) (ps : List S24) : Prop where
  all : AllAt wr w.heap.size v3 (ps.flatMap textF)
  want : WantAt w wr w.heap.size v4 (upTo ps)
  below : Below w.heap.size w wr
  good : ∀ q ∈ ps, PrintsQ q
  num : ps.length ≤ k
  big : (ps.flatMap textF).length ≤ 20014 * ps.length
  few : ps.length ≤ 20
set_option maxRecDepth 100000 in
set_option maxHeartbeats 3200000 in
theorem back_calls {w : World} (hG : Glob w) (h9 : 9 ≤ w.heap.size) (A : Option Addr) (c : Nat) (qs : List S24) (hC : k24.C w A qs.length qs) (hc : qs.length ≤ c) (hF : ∀ q ∈ qs, Fit24 q) :
    Calls Tryz.prog 10 #[.slice A qs.length c] w fun e w' => e = .returned (.bool true) ∧ Below w.heap.size w w' := by
  have HG := Aside0.mk hG
  have HC := Aside0.mk hC
  have HF := Aside0.mk hF
  have hm : qs.length ≤ 9223372036854775807 := hC.2.1
  clear hG hC hF
  go_enter Tryz.func10, Tryz.ntmps10
  go_wp2_with fail
  go_loopw [3, 4, 5, 13] (fun v3 v4 v5 i wr => ∃ (k : Nat) (ps : List S24), k ≤ qs.length ∧ i = .int .i64 k ∧ v5 = .bool (anyOver ps) ∧ Aside0 (BkAt w wr v3 v4 k ps)) (fun _ _ _ i _ => qs.length - (intOf i).toNat)
  case atStart => exact ⟨0, [], Nat.zero_le _, rfl, rfl, ⟨⟨AllAt.nil _ _, WantAt.nil _ _ _, Below.refl _ _, (fun q hq => by cases hq), Nat.le_refl _, by simp, by simp⟩⟩⟩
  case round =>
    obtain ⟨k, ps, hk, rfl, rfl, hH⟩ := hrel
    by_cases hlt : k < qs.length
    · obtain ⟨q, hq⟩ : ∃ q, qs[k]? = some q := ⟨_, List.getElem?_eq_getElem hlt⟩
      have QF := Aside0.mk (HF.out q (List.mem_of_getElem? hq))
      have HB := Aside0.mk hH.out.below
      obtain ⟨ad, A2, c2, hA, c0, c1, c2', c3, c4, le2, hC2⟩ := at_T24 HC.out (k : Int) (by omega) (by omega)
      have hr : rd_T24 qs (k : Int) = q := by simp [rd_T24, hq]
      rw [hr, Int.toNat_natCast] at c0 c1 c2' c3 c4
      rw [hr] at le2 hC2
      replace c0 := pw_cell_below HB.out c0
      replace c1 := pw_cell_below HB.out c1
      replace c2' := pw_cell_below HB.out c2'
      replace c3 := pw_cell_below HB.out c3
      replace c4 := pw_cell_below HB.out c4
      have LE := Aside0.mk le2
      have C2 := Aside0.mk hC2
      subst hA
      have zr := HB.out.size
      have BA := Aside0.mk ((Below.refl wr.heap.size wr).alloc (Nat.le_refl _) (.cells #[.string q.f0, .string q.f1, .slice A2 q.f2.length c2, .string q.f3, .bool q.f4] 24))
      have B1 := Aside0.mk (HB.out.alloc zr (.cells #[.string q.f0, .string q.f1, .slice A2 q.f2.length c2, .string q.f3, .bool q.f4] 24))
      clear hr le2 hC2 hq
      by_cases h20 : 20 ≤ k
      · go_wp2_with fail
        refine (lives_calls (HG.out.below B1.out) (Nat.le_trans h9 B1.out.size)).mono ?_
        rintro e w5 ⟨rfl, hB5⟩
        have B5 := Aside0.mk (below_step B1.out hB5)
        clear hB5
        go_wp2_with fail
        go_ret
        exact ⟨rfl, B5.out⟩
      · have Q1 := Aside0.mk (heap_alloc_new wr (.cells #[.string q.f0, .string q.f1, .slice A2 q.f2.length c2, .string q.f3, .bool q.f4] 24))
        have z1 := Go.Deep.nblk_alloc wr (.cells #[.string q.f0, .string q.f1, .slice A2 q.f2.length c2, .string q.f3, .bool q.f4] 24)
        go_wp2_with fail
        revert BA B1 Q1 z1
        generalize (wr.alloc (.cells #[.string q.f0, .string q.f1, .slice A2 q.f2.length c2, .string q.f3, .bool q.f4] 24)) = W1
        intro BA B1 Q1 z1
        refine (light_calls q (Kd.C_below C2.out B1.out) LE.out QF.out).mono ?_
        rintro e w2 ⟨⟨r, rfl, hr⟩, hB2⟩
        have B2 := Aside0.mk (below_step B1.out hB2)
        have BA2 := Aside0.mk (below_step BA.out hB2)
        have hq2 := (hB2.block wr.heap.size (by omega)).trans Q1.out
        have z2 : wr.heap.size < w2.heap.size := by have := hB2.size; omega
        clear hB2
        cases r with
        | false =>
          clear hr
          go_wp2_with fail
          refine (lives_calls (HG.out.below B2.out) (Nat.le_trans h9 B2.out.size)).mono ?_
          rintro e w5 ⟨rfl, hB5⟩
          have B5 := Aside0.mk (below_step B2.out hB5)
          clear hB5
          go_wp2_with fail
          go_ret
          exact ⟨rfl, B5.out⟩
        | true =>
          have WT := Aside0.mk (show wt q ≤ 20000 from hr.1 rfl)
          have r0 := cell_of_heap hq2 0 (.string q.f0) rfl
          have r1 := cell_of_heap hq2 1 (.string q.f1) rfl
          have r2 := cell_of_heap hq2 2 (.slice A2 q.f2.length c2) rfl
          have r3 := cell_of_heap hq2 3 (.string q.f3) rfl
          have r4 := cell_of_heap hq2 4 (.bool q.f4) rfl
          have Q2 := Aside0.mk hq2
          clear hr hq2 Q1
          go_wp2_with fail
          refine (print_calls (HG.out.below B2.out) (Nat.le_trans h9 B2.out.size) q A2 c2 (Kd.C_below C2.out B2.out) LE.out (by have := WT.out; omega)).mono ?_
          rintro e w3 ⟨hB3, h3⟩
          have B3 := Aside0.mk (below_step B2.out hB3)
          have BA3 := Aside0.mk (below_step BA2.out hB3)
          have Q3 := Aside0.mk ((hB3.block wr.heap.size z2).trans Q2.out)
          have z3 : wr.heap.size < w3.heap.size := by have := hB3.size; omega
          have L3 := Aside0.mk (hH.out.all.below BA3.out)
          have N3 := Aside0.mk (hH.out.want.below BA3.out)
          clear hB3 r0 r1 r2 r3 r4 Q2
          rcases h3 with ⟨hp, rfl⟩ | ⟨hp, rfl⟩
          · have HP := Aside0.mk hp
            have TL := Aside0.mk (show (textF q).length ≤ 20014 from by have := textF_le q; have := WT.out; omega)
            clear hp
            go_wp2_with (at_builtin; go_must (refine all_wp rfl (.tmp 33) (.tmp 34) rfl (t := textF q) (by simp [Act.eval, Act.put]) (by simp [Act.eval, Act.put]) L3.out B3.out.size (by have := TL.out; have := hH.out.big; have := hH.out.few; omega) ?_))
            intro v5 w4 hA4 hg4
            have ALL := Aside0.mk (show AllAt w4 w.heap.size v5 ((ps ++ [q]).flatMap textF) from by rw [List.flatMap_append]; simpa using hA4)
            have N4 := Aside0.mk (N3.out.grown L3.out hg4)
            have B4 := Aside0.mk (pw_below_grown B3.out _ B3.out.size hg4 (fun k hk => (L3.out.block k hk).1))
            have z4 : wr.heap.size < w4.heap.size := by have := hg4.size; omega
            have hq4 := (hg4.block wr.heap.size z3 (fun h => by have := (hH.out.all.block _ h.symm).2; omega)).trans Q3.out
            have r0 := cell_of_heap hq4 0 (.string q.f0) rfl
            have r1 := cell_of_heap hq4 1 (.string q.f1) rfl
            have r2 := cell_of_heap hq4 2 (.slice A2 q.f2.length c2) rfl
            have r3 := cell_of_heap hq4 3 (.string q.f3) rfl
            have r4 := cell_of_heap hq4 4 (.bool q.f4) rfl
            have Q4 := Aside0.mk hq4
            have GOOD := Aside0.mk (show ∀ x ∈ ps ++ [q], PrintsQ x from fun x hx => by
              rcases List.mem_append.1 hx with hx | hx
              · exact hH.out.good x hx
              · rw [List.mem_singleton.1 hx]; exact HP.out)
            have BIG := Aside0.mk (show ((ps ++ [q]).flatMap textF).length ≤ 20014 * (ps ++ [q]).length from by
              have h1 := hH.out.big
              have h2 := TL.out
              rw [List.flatMap_append, List.length_append, List.length_append]
              simp only [List.flatMap_cons, List.flatMap_nil, List.append_nil, List.length_cons, List.length_nil]
              omega)
            have FEW := Aside0.mk (show (ps ++ [q]).length ≤ k + 1 ∧ (ps ++ [q]).length ≤ 20 from by
              have := hH.out.num
              simp only [List.length_append, List.length_cons, List.length_nil]
              omega)
            clear hA4 hg4 hq4 L3 N3 Q3
            cases hov : anyOver ps with
            | true =>
              go_wp2_with fail
              go_roundw
              case rel => exact ⟨k + 1, ps ++ [q], by omega, by go_num, by rw [anyOver_snoc, hov]; rfl, ⟨ALL.out, by rw [upTo_snoc, hov, if_pos rfl, List.append_nil]; exact N4.out, B4.out, GOOD.out, FEW.out.1, BIG.out, FEW.out.2⟩⟩
              case measure => simp [intOf]; omega
            | false =>
              have KV := Aside0.mk (k53_mk w ⟨q, 0⟩ LE.out C2.out)
              have UL := Aside0.mk (show (upTo ps).length ≤ 1000000 from by have := upTo_le ps; have := hH.out.few; omega)
              go_wp2_with (at_builtin; go_must (refine want_wp (w := w) rfl (.tmp 38) (.tmp 41) rfl (p := ⟨q, 0⟩) (cs := [.string q.f0, .string q.f1, .slice A2 q.f2.length c2, .string q.f3, .bool q.f4, .int .i64 0]) (by simp [Act.eval, Act.put]) (by simp [Act.eval, Act.put]) KV.out N4.out B4.out.size UL.out ?_))
              intro v6 w5 hA5 hg5
              have N5 := Aside0.mk (show WantAt w w5 w.heap.size v6 (upTo (ps ++ [q])) from by rw [upTo_snoc, hov, if_neg (by simp)]; exact hA5)
              have L5 := Aside0.mk (ALL.out.grown N4.out hg5)
              have B5 := Aside0.mk (pw_below_grown B4.out _ B4.out.size hg5 (fun k hk => (N4.out.block k hk).1))
              have hq5 := (hg5.block wr.heap.size z4 (fun h => by have := (hH.out.want.block _ h.symm).2; omega)).trans Q4.out
              have r4' := cell_of_heap hq5 4 (.bool q.f4) rfl
              clear hA5 hg5 hq5 r0 r1 r2 r3 r4 Q4
              go_wp2_with fail
              go_roundw
              case rel => exact ⟨k + 1, ps ++ [q], by omega, by go_num, by rw [anyOver_snoc, hov]; rfl, ⟨L5.out, N5.out, B5.out, GOOD.out, FEW.out.1, BIG.out, FEW.out.2⟩⟩
              case measure => simp [intOf]; omega
          · go_wp2_with fail
            go_roundw
            case rel => exact ⟨k + 1, ps, by omega, by go_num, rfl, ⟨L3.out, N3.out, B3.out, hH.out.good, by have := hH.out.num; omega, hH.out.big, hH.out.few⟩⟩
            case measure => simp [intOf]; omega
    · obtain rfl : k = qs.length := by omega
      have HB := Aside0.mk hH.out.below
      have law := back_law ps hH.out.good (by have := hH.out.big; have := hH.out.few; omega)
      obtain ⟨xs, hxs⟩ : ∃ xs, xs = ps.flatMap textF := ⟨_, rfl⟩
      have TL := Aside0.mk (show xs.length ≤ 1000000 from by rw [hxs]; have := hH.out.big; have := hH.out.few; omega)
      have ALL := Aside0.mk (show AllAt wr w.heap.size u3 xs from by rw [hxs]; exact hH.out.all)
      rw [← hxs] at law
      have LAW := Aside0.mk law
      have WANT := Aside0.mk hH.out.want
      obtain ⟨us, hus⟩ : ∃ us, us = upTo ps := ⟨_, rfl⟩
      rw [← hus] at LAW WANT
      obtain ⟨A3, c3, rfl⟩ := ALL.out.slice
      clear law hxs hus hH
      go_wp2_with fail
      refine (new_calls (S := fun k => wr.heap.size ≤ k) (fun k hk => hk)).mono ?_
      rintro e w2 ⟨rfl, hB2, h2⟩
      have D2 := Aside0.mk (show RdS w2 (fun k => wr.heap.size ≤ k) wr.heap.size (some Rd.new) from ⟨rfl, _, _, _, h2⟩)
      have C2 := Aside0.mk (Kd.C_below (ALL.out.C (by have := TL.out; omega)).1 hB2)
      have B2 := Aside0.mk (below_step HB.out hB2)
      have BB := Aside0.mk hB2
      have hz12 := hB2.size
      clear hB2 h2
      go_wp2_with fail
      refine (feedS_calls D2.out (N := 0) Fd.new C2.out ?_ (fun k hk => by omega) (fun k hk => by have := HB.out.size; omega) (HG.out.below B2.out) (by have := TL.out; omega)).mono ?_
      · intro h0 a ha
        subst ha
        have := (ALL.out.block a.block rfl).2
        show a.block ≠ wr.heap.size
        omega
      rintro e w3 ⟨hF3, vo, rfl, hout⟩
      obtain ⟨T3, hR3, hT3, hrd3⟩ := RdS.of_out hout
      have BR3 := Aside0.mk (((Frame.of_below (S := fun k => wr.heap.size ≤ k) BB.out).trans hF3).below (fun k hk => hk))
      have B3 := Aside0.mk (below_step HB.out BR3.out)
      obtain ⟨hl1, hl2, hl3⟩ := LAW.out
      rw [hl1] at hR3
      have FS := Aside0.mk (fds_big (xs) TL.out)
      have RD3 := Aside0.mk hrd3
      obtain ⟨sx, hsx⟩ : ∃ sx, sx = (feedS (some Rd.new) (xs)).2 := ⟨_, rfl⟩
      rw [← hsx] at hl2 hl3 FS RD3
      obtain ⟨A4, c4, rfl, le4, hC4⟩ := Kd.R_reads hR3
      obtain ⟨A5, c5, rfl, le5, hC5⟩ := (WANT.out.below BR3.out).C B3.out
      have C4 := Aside0.mk hC4
      have C5 := Aside0.mk hC5
      clear hsx hl1 hR3 hT3 hrd3 hF3 hout hC4 hC5 D2
      go_wp2_with fail
      refine (alike_calls C4.out le4 C5.out le5).mono ?_
      rintro e w4 ⟨rfl, hB4⟩
      have RD4 := Aside0.mk (RD3.out.move hB4.size (fun k hk hl => hB4.block k hl))
      have B4 := Aside0.mk (below_step B3.out hB4)
      clear hB4
      go_wp2_with fail
      refine (leftS_calls RD4.out FS.out (by omega)).mono ?_
      rintro e w5 ⟨rfl, hB5⟩
      rw [hl2]
      have RD5 := Aside0.mk (RD4.out.move hB5.size (fun k hk hl => hB5.block k hl))
      have B5 := Aside0.mk (below_step B4.out hB5)
      clear hB5
      go_wp2_with fail
      refine (overS_calls RD5.out FS.out).mono ?_
      rintro e w6 ⟨rfl, rfl⟩
      rw [hl3]
      go_wp2_with fail
      refine (lives_calls (HG.out.below B5.out) (Nat.le_trans h9 B5.out.size)).mono ?_
      rintro e w7 ⟨rfl, hB7⟩
      have B7 := Aside0.mk (below_step B5.out hB7)
      clear hB7
      go_wp2_with fail
      go_ret
      exact ⟨rfl, B7.out⟩
end Go.Proofs.YtafhkpnmolfjeaaGreatDoor.Rq
