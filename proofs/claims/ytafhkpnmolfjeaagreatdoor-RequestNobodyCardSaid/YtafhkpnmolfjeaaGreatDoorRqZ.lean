/- Walk of the reader's Feed. -/
import Derived.Test.YtafhkpnmolfjeaaGreatDoorRqY
set_option linter.unusedVariables false
set_option linter.unusedSimpArgs false
namespace Go.Proofs.YtafhkpnmolfjeaaGreatDoor.Rq
open Go.RowKit Go.Proofs.YtafhkpnmolfjeaaGreatDoorW.PrintWords Go.Proofs.YtafhkpnmolfjeaaGreatDoor.PRequestBack

theorem add_block (a : Addr) (j : Nat) : (a.add j).block = a.block := by unfold Addr.add; split <;> rfl
theorem C_frame {S : Nat → Prop} {w w1 : World} {A : Option Addr} {n : Nat} {xs : List Int} (hf : Frame S w w1) (h : (Kd.int .u8).C w A n xs) (hne : ∀ a, A = some a → ¬ S a.block) : (Kd.int .u8).C w1 A n xs := by
  obtain ⟨h1, h2, h3⟩ := h
  refine ⟨h1, h2, fun h0 => ?_⟩
  obtain ⟨ad, e, hr⟩ := h3 h0
  refine ⟨ad, e, fun j p hp => ?_⟩
  obtain ⟨c, hk, hcl, hcells⟩ := hr j p hp
  exact ⟨c, hk, hcl, fun i u hu => cell_frame hf (by rw [add_block]; exact hne ad e) (hcells i u hu)⟩
set_option maxRecDepth 100000 in
set_option maxHeartbeats 1600000 in
theorem feed_calls {w : World} {S : Nat → Prop} {g : Nat} {r : Rd} (h : FedAt w S g r) {A : Option Addr} {c : Nat} {bs : List UInt8} (hv : (Kd.int .u8).C w A bs.length (ints bs)) (hne : ∀ a, A = some a → a.block ≠ g) (hU : ∀ k, w.heap.size ≤ k → S k) (hS : ∀ k, S k → 9 ≤ k) (hG : Glob w)
    (hl : r.wait.length + bs.length ≤ 100000000000) {n : Nat} {L : List S53} {O : Option Rd} (hr : Run n { r with wait := r.wait ++ bs } L O) :
    Calls Tryz.prog 23 #[.pointer (some ⟨g, 0, none⟩), .slice A bs.length c] w fun e w' => Frame S w w' ∧ ∃ vo, e = .returned vo ∧ OutAt w' S g vo L O := by
  obtain ⟨ht, vw, vh, vb, h⟩ := h
  obtain ⟨Aw, cw, rfl, _⟩ := h.wait.sl
  have hx : r.nx ≠ .over := by obtain ⟨m, res, _, hs, _⟩ := hr.step; exact hs.nx
  have e1 := fun w f a b => run_neq_func_nil w f a b 26 Tryz.underlying26
  have e2 := fun w => run_neq_nil_nilFunc w 26 Tryz.underlying26
  have k2 := cell_of_heap h.cells 2 (r.nx.val g) rfl
  have k0 := cell_of_heap h.cells 0 (.slice Aw r.wait.length cw) rfl
  have k13 := cell_of_heap h.cells 13 (.slice none 0 0) rfl
  have f13 := frozen_of_heap h.cells 13
  have H := Aside0.mk h
  have HV := Aside0.mk hv
  have HU := Aside0.mk hU
  have HS := Aside0.mk hS
  have HG := Aside0.mk hG
  have HR := Aside0.mk hr
  clear h hv hU hS hG hr
  go_enter Tryz.func23, Tryz.ntmps23
  go_wp2_with fail
  refine (over_calls r.nx k2).mono ?_
  rintro e w1 ⟨rfl, rfl⟩
  have hov : r.nx.isOver = false := by cases hq : r.nx <;> first | exact absurd hq hx | rfl
  rw [hov]
  go_wp2_with fail
  have H1 := Aside0.mk (H.out.turn (w1 := w1.setCell ⟨g, 13, none⟩ (.slice none 0 0)) (r1 := r) (by rw [heap_set H.out.cells 13 _]; simp [cellsRd]) (by simp) (same_put (same_refl g w1) 13 _) H.out.wait (fun _ hk => hk) rfl rfl rfl)
  have HF1 := Aside0.mk ((Frame.refl S w1).putIn H.out.own 13 (.slice none 0 0))
  have HV1 := Aside0.mk (C_frame ((Frame.refl (fun k => k = g) w1).put 13 (.slice none 0 0)) HV.out hne)
  clear HV H k2 k13 f13 k0
  revert H1 HF1 HV1
  generalize w1.setCell ⟨g, 13, none⟩ (.slice none 0 0) = W1
  intro H1 HF1 HV1
  refine (clone_calls H1.out.wait (by omega)).mono ?_
  rintro e w2 ⟨v2, rfl, hR2, hB2⟩
  obtain ⟨A2, c2, hv2⟩ := R_slice' hR2
  rw [ints_length] at hv2
  subst hv2
  have HR2 := Aside0.mk hR2
  have HB2 := Aside0.mk hB2
  clear hR2 hB2
  go_wp2_with (at_builtin; go_must (refine Kd.R_append_rows (Kd.int .u8) (Rr := (Kd.int .u8).K w2) (w0 := W1) W1.heap.size rfl (.tmp 16) (.tmp 17) 40 5 (.int .u8 0) 1 rfl Tryz.underlying40 info5 rfl (by decide) (by decide) (.slice A2 r.wait.length c2) (ints r.wait) (ints bs) A bs.length c (fun _ => True) (fun _ => False) (by simp [Act.eval, Act.put]) (by simp [Act.eval, Act.put]) HR2.out ?c2 (fun _ _ h => h) (fun _ h => h.elim) (fun k hk => trivial) HB2.out HB2.out.size ?c5 ?_))
  case c2 => exact Kd.C_below HV1.out HB2.out
  case c5 => rw [ints_length]; omega
  intro v1 w3 hR hB _ _
  obtain ⟨Ab1, cb1, hv1⟩ := R_slice' hR
  rw [← ints_append, ints_length, List.length_append] at hv1
  subst hv1
  rw [← ints_append] at hR
  have HP := Aside0.mk (wait_put H1.out (fun k hk => HU.out k (Nat.le_trans HF1.out.size hk)) hB hR)
  have h3 := H1.out.move hB.size (fun k _ hk => hB.block k hk)
  have q0 := cell_of_heap h3.cells 0 (.slice Aw r.wait.length cw) rfl
  have p0 := frozen_of_heap h3.cells 0
  clear hR hB h3
  go_wp2_with fail
  clear q0 p0
  have HF3 := Aside0.mk (HF1.out.trans HP.out.1)
  have HI := Aside0.mk HP.out.2
  clear HP
  revert HF3 HI
  generalize w3.setCell ⟨g, 0, none⟩ (.slice Ab1 (r.wait.length + bs.length) cb1) = W4
  intro HF3 HI
  go_loopg [] n (fun kq w' => ∃ r1, Aside0 (IsRd w' S g r1) ∧ Aside0 (Frame S w1 w') ∧ Aside0 (Run kq r1 L O))
  case atStart => exact ⟨_, ⟨_, _, _, _, _, HI.out⟩, HF3, HR⟩
  case round =>
    obtain ⟨r1, hR, hF, hRn⟩ := hrel
    obtain ⟨m, res, hm, hs, hres⟩ := hRn.out.step
    subst hm
    obtain ⟨vw, vh, vb, vt, T, h1⟩ := hR.out
    have k2 := cell_of_heap h1.cells 2 (r1.nx.val g) rfl
    rw [Nx.val_fn hs.nx] at k2
    have HRES := Aside0.mk hres
    have HG1 := Aside0.mk (HG.out.frame hF.out HS.out)
    have HU1 := Aside0.mk (fun k (hk : wr.heap.size ≤ k) => HU.out k (Nat.le_trans hF.out.size hk))
    have hcall := step_calls hs hR.out HU1.out HS.out HG1.out
    have hno := hs.nx
    clear hres hs h1
    cases hnx : r1.nx
    case' over => exact absurd hnx hno
    all_goals
      rw [hnx] at k2 hcall
      simp only [Nx.fn] at k2 hcall
      have HC := Aside0.mk hcall
      clear hcall hno
      go_wp2_with fail
      refine HC.out.mono ?_
      intro e w6 hp
      cases res with
      | wait r' =>
        obtain ⟨hf6, rfl, vw6, vh6, vb6, vt6, T6, h6⟩ := hp.wait'
        have k13 := cell_of_heap h6.cells 13 vt6 rfl
        have f13 := frozen_of_heap h6.cells 13
        obtain ⟨At6, ct6, rfl⟩ := R_slice h6.told
        have H6 := Aside0.mk (And.intro (hF.out.trans hf6) (told_take h6))
        have H7 := Aside0.mk h6.own
        clear hf6 hp h6 k2
        go_wp2_with fail
        go_ret
        obtain ⟨rfl, rfl⟩ := HRES.out
        exact ⟨H6.out.1.putIn H7.out 13 _, _, rfl, H6.out.2⟩
      | over l' =>
        obtain ⟨hf6, rfl, vt6, T6, h6⟩ := hp.over'
        obtain ⟨cs, hc6, _, h13⟩ := h6.cells
        have k13 := cell_of_heap hc6 13 vt6 h13
        have f13 := frozen_of_heap hc6 13
        obtain ⟨At6, ct6, rfl⟩ := R_slice h6.told
        have H6 := Aside0.mk (And.intro (hF.out.trans hf6) (told_over h6))
        have H7 := Aside0.mk h6.own
        clear hf6 hp h6 k2 hc6 h13
        go_wp2_with fail
        go_ret
        obtain ⟨rfl, rfl⟩ := HRES.out
        exact ⟨H6.out.1.putIn H7.out 13 _, _, rfl, H6.out.2⟩
      | more r' =>
        obtain ⟨hf6, rfl, h6⟩ := hp.more'
        have H6 := Aside0.mk h6
        have HF6 := Aside0.mk (hF.out.trans hf6)
        clear hf6 hp h6 k2
        go_wp2_with fail
        go_roundg m
        case measure => omega
        case rel => exact ⟨r', H6, HF6, ⟨HRES.out⟩⟩
end Go.Proofs.YtafhkpnmolfjeaaGreatDoor.Rq
