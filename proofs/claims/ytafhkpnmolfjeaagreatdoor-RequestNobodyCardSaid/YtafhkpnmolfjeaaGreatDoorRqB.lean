/- Walk of the reader's behind. -/
import Derived.Test.YtafhkpnmolfjeaaGreatDoorRqW
set_option linter.unusedVariables false
set_option linter.unusedSimpArgs false
namespace Go.Proofs.YtafhkpnmolfjeaaGreatDoor.Rq
open Go.RowKit Go.Proofs.YtafhkpnmolfjeaaGreatDoorW.PrintWords Go.Proofs.YtafhkpnmolfjeaaGreatDoor.PRequestBack

def tConnection : ByteArray := ⟨#[99, 111, 110, 110, 101, 99, 116, 105, 111, 110]⟩
def tClose : ByteArray := ⟨#[99, 108, 111, 115, 101]⟩
def tLength : ByteArray := ⟨#[99, 111, 110, 116, 101, 110, 116, 45, 108, 101, 110, 103, 116, 104]⟩
def tCoding : ByteArray := ⟨#[116, 114, 97, 110, 115, 102, 101, 114, 45, 101, 110, 99, 111, 100, 105, 110, 103]⟩
def tChunked : List UInt8 := [99, 104, 117, 110, 107, 101, 100]
def keepF (r : Rd) : Bool := !r.old && !Lib.containsS (vals r.q.f2 tConnection) tClose
def Rd.kept (r : Rd) : Rd := { r with q := { r.q with f4 := keepF r } }

def behindF (r0 : Rd) : Res :=
  if 1 < (vals r0.q.f2 tLength).length + (vals r0.q.f2 tCoding).length then stopF 400 r0.kept
  else match vals r0.q.f2 tCoding with
    | c :: _ => if c.toList == tChunked then .more { r0.kept with nx := .size } else stopF 400 r0.kept
    | [] => match vals r0.q.f2 tLength with
      | [] => doneF r0.kept
      | l :: _ => if l.toList.isEmpty || !visB 48 57 l then stopF 400 r0.kept
        else match atoiF l with
          | none => stopF 413 r0.kept
          | some n => if 8192 < n then stopF 413 r0.kept else .more { r0.kept with size := n, nx := .body }

set_option maxRecDepth 100000 in
set_option maxHeartbeats 1600000 in
theorem behind_res {w : World} {S : Nat → Prop} {g : Nat} {r : Rd} {vw vh vb vt : Value} {T : Nat → Prop} (h : RdAt w S g r vw vh vb vt T) (hU : ∀ k, w.heap.size ≤ k → S k) (hS : ∀ k, S k → 9 ≤ k) (hG : Glob w) (hl : r.q.f2.length < 1000000000) (ht : r.told.length < 1000000000000) (hls : ∀ l ∈ vals r.q.f2 tLength, l.size ≤ 281474976710656) (old : Bool) (hold : r.old = old) :
    Calls Tryz.prog 107 #[.pointer (some ⟨g, 0, none⟩)] w (ResAt w S g (behindF r)) := by
  have k10 := cell_of_heap h.cells 10 (.bool r.old) rfl
  rw [hold] at k10
  have HO := Aside0.mk hold
  have H := Aside0.mk h
  have HG := Aside0.mk hG
  have HU := Aside0.mk hU
  have HS := Aside0.mk hS
  clear h hold hG hU hS
  have upd : ∀ {w1 : World}, Below w.heap.size w w1 → RdAt w1 S g r vw vh vb vt T → Frame S w (w1.setCell ⟨g, 7, none⟩ (.bool (keepF r))) ∧ RdAt (w1.setCell ⟨g, 7, none⟩ (.bool (keepF r))) S g r.kept vw vh vb vt T := by
    intro w1 hB h1
    refine ⟨(Frame.of_below hB).putIn h1.own 7 _, h1.turn ?_ (by simp) (same_put (same_refl g w1) 7 _) h1.wait (fun _ hk => hk) rfl rfl rfl⟩
    rw [heap_set h1.cells 7 _]; simp [cellsRd, Rd.kept]
  have UPD := Aside0.mk (@upd)
  clear upd
  have hk : keepF r = (!old && !Lib.containsS (vals r.q.f2 tConnection) tClose) := by unfold keepF; rw [HO.out]
  have HK := Aside0.mk hk
  clear hk
  cases old
  case' false =>
    go_enter Tryz.func107, Tryz.ntmps107
    go_wp2_with fail
    refine (all_calls H.out tConnection hl).mono ?_
    rintro e w1 ⟨v1, rfl, hR1, hB1⟩
    have H1 := H.out.move hB1.size (fun k _ hk => hB1.block k hk)
    have X := Aside0.mk (UPD.out hB1 H1)
    have HR1 := Aside0.mk hR1
    have k7 := cell_of_heap H1.cells 7 (.bool r.q.f4) rfl
    have f7 := frozen_of_heap H1.cells 7
    clear hR1 hB1 H1
    go_wp2_with fail
    refine (contains_calls HR1.out tClose).mono ?_
    rintro e w2 ⟨rfl, rfl⟩
    go_wp2_with fail
    rw [HK.out] at X
    simp only [Bool.not_false, Bool.true_and] at X
    revert X
    generalize w2.setCell ⟨g, 7, none⟩ (.bool (!Lib.containsS (vals r.q.f2 tConnection) tClose)) = W3
    intro X
    clear k7 f7 k10 HR1
  case' true =>
    go_enter Tryz.func107, Tryz.ntmps107
    have H1 := H.out
    have X := Aside0.mk (UPD.out (Below.refl _ _) H1)
    have k7 := cell_of_heap H1.cells 7 (.bool r.q.f4) rfl
    have f7 := frozen_of_heap H1.cells 7
    clear H1
    go_wp2_with fail
    rw [HK.out] at X
    simp only [Bool.not_true, Bool.false_and] at X
    revert X
    generalize w.setCell ⟨g, 7, none⟩ (.bool false) = W3
    intro X
    clear k7 f7 k10
  all_goals
    clear HK HO UPD H
    refine (all_calls2 X.out.2 tLength r.q.f2 rfl hl).mono ?_
    rintro e w4 ⟨v4, rfl, hR4, hB4⟩
    obtain ⟨XF, XR⟩ := X.out
    have X4 := Aside0.mk (And.intro (XF.trans (Frame.of_below (S := S) hB4)) (XR.move hB4.size (fun k _ hk => hB4.block k hk)))
    have HR4 := Aside0.mk hR4
    clear hR4 hB4 X XF XR
    go_wp2_with fail
    refine (all_calls2 X4.out.2 tCoding r.q.f2 rfl hl).mono ?_
    rintro e w5 ⟨v5, rfl, hR5, hB5⟩
    have HR4' := Aside0.mk (Kd.R_below HR4.out hB5)
    obtain ⟨XF, XR⟩ := X4.out
    have X5 := Aside0.mk (And.intro (XF.trans (Frame.of_below (S := S) hB5)) (XR.move hB5.size (fun k _ hk => hB5.block k hk)))
    have HR5 := Aside0.mk hR5
    have HU5 := Aside0.mk (fun k (hk : w5.heap.size ≤ k) => HU.out k (Nat.le_trans X5.out.1.size hk))
    clear hR5 hB5 X4 XF XR HR4
    obtain ⟨A4, c4, rfl⟩ := R_slice' HR4'.out
    obtain ⟨A5, c5, rfl⟩ := R_slice' HR5.out
    have hF : behindF r = behindF r := rfl
    conv at hF => rhs; unfold behindF
    have HF := Aside0.mk hF
    clear hF
    have hL := vals_len r.q.f2 tLength
    have hC := vals_len r.q.f2 tCoding
    revert hls HF hL hC HR4' HR5
    generalize vals r.q.f2 tLength = L
    generalize vals r.q.f2 tCoding = C
    intro hls HR4' HR5 HF hL hC
    have hls := Aside0.mk hls
    have k2 := cell_of_heap X5.out.2.cells 2 (r.kept.nx.val g) rfl
    have f2 := frozen_of_heap X5.out.2.cells 2
    have k12 := cell_of_heap X5.out.2.cells 12 (.int .i64 r.kept.size) rfl
    have f12 := frozen_of_heap X5.out.2.cells 12
    by_cases c1 : 1 < L.length + C.length
    · have d1 : (1 : Int) < (L.length : Int) + (C.length : Int) := by omega
      go_wp2_with fail
      refine (stop_res ⟨_, _, _, _, _, X5.out.2⟩ HU5.out 400 rfl ht).mono ?_
      rintro e w6 hres
      have HR6 := Aside0.mk hres
      obtain ⟨bb, rfl⟩ := hres.bool
      clear hres
      go_wp2_with fail
      go_ret
      show ResAt w S g (behindF r) _ w6
      rw [HF.out]; rw [if_pos c1]
      exact HR6.out.from X5.out.1
    · have d1 : ¬ (1 : Int) < (L.length : Int) + (C.length : Int) := by omega
      cases C with
      | cons x xs =>
        have hx0 : xs = [] := by cases xs with | nil => rfl | cons y ys => simp only [List.length_cons] at c1; omega
        subst hx0
        have hL0 : L = [] := by cases L with | nil => rfl | cons y ys => simp only [List.length_cons] at c1; omega
        subst hL0
        clear d1
        obtain ⟨g5, cp5, hA5, _, _⟩ := (Kd.own_of_R HR5.out).form (Nat.succ_pos _)
        injection hA5 with hA5 _ hc5
        subst hA5 hc5
        have kx := (Kd.own_of_R HR5.out).cells (g := g5) rfl 0 (.string x) rfl
        rw [add_at] at kx
        cases hx : (x.toList == tChunked)
        · have HX := Aside0.mk hx
          simp only [tChunked] at hx
          go_wp2_with fail
          refine (stop_res ⟨_, _, _, _, _, X5.out.2⟩ HU5.out 400 rfl ht).mono ?_
          rintro e w6 hres
          have HR6 := Aside0.mk hres
          obtain ⟨bb, rfl⟩ := hres.bool
          clear hres
          go_wp2_with fail
          go_ret
          show ResAt w S g (behindF r) _ w6
          rw [HF.out]; rw [if_neg c1]; simp only [HX.out]
          exact HR6.out.from X5.out.1
        · have HX := Aside0.mk hx
          simp only [tChunked] at hx
          go_wp2_with fail
          go_ret
          show ResAt w S g (behindF r) _ _
          rw [HF.out]; rw [if_neg c1]; simp only [HX.out]
          refine ⟨X5.out.1.putIn X5.out.2.own 2 _, rfl, vw, vh, vb, vt, T, X5.out.2.turn ?_ (by simp) (same_put (same_refl g w5) 2 _) X5.out.2.wait (fun _ hk => hk) rfl rfl rfl⟩
          rw [heap_set X5.out.2.cells 2 _]; simp [cellsRd, Nx.val]
      | nil =>
        cases L with
        | nil =>
          go_wp2_with fail
          refine (done_res ⟨_, _, _, _, _, X5.out.2⟩ HU5.out ht).mono ?_
          rintro e w6 hres
          have HR6 := Aside0.mk hres
          obtain ⟨bb, rfl⟩ := hres.bool
          clear hres
          go_wp2_with fail
          go_ret
          show ResAt w S g (behindF r) _ w6
          rw [HF.out]; rw [if_neg c1]
          exact HR6.out.from X5.out.1
        | cons l ls =>
          have hx0 : ls = [] := by cases ls with | nil => rfl | cons y ys => simp only [List.length_cons] at c1; omega
          subst hx0
          clear d1
          obtain ⟨g4, cp4, hA4, _, _⟩ := (Kd.own_of_R HR4'.out).form (Nat.succ_pos _)
          injection hA4 with hA4 _ hc4
          subst hA4 hc4
          have kl := (Kd.own_of_R HR4'.out).cells (g := g4) rfl 0 (.string l) rfl
          rw [add_at] at kl
          cases he : l.toList.isEmpty
          · cases hv : visB 48 57 l
            · go_wp2_with fail
              refine (visible_calls 48 57 48 57 rfl rfl (by decide) (by decide) l _).mono ?_
              rintro e w51 ⟨rfl, hB51⟩
              obtain ⟨XF, XR⟩ := X5.out
              have X6 := Aside0.mk (And.intro (XF.trans (Frame.of_below (S := S) hB51)) (XR.move hB51.size (fun k _ hk => hB51.block k hk)))
              have HU6 := Aside0.mk (fun k (hk : w51.heap.size ≤ k) => HU.out k (Nat.le_trans X6.out.1.size hk))
              clear hB51 XF XR
              go_wp2_with fail
              refine (stop_res ⟨_, _, _, _, _, X6.out.2⟩ HU6.out 400 rfl ht).mono ?_
              rintro e w6 hres
              have HR6 := Aside0.mk hres
              obtain ⟨bb, rfl⟩ := hres.bool
              clear hres
              go_wp2_with fail
              go_ret
              show ResAt w S g (behindF r) _ w6
              rw [HF.out]; rw [if_neg c1]; simp only [he, hv]
              exact HR6.out.from X6.out.1
            · go_wp2_with fail
              refine (visible_calls 48 57 48 57 rfl rfl (by decide) (by decide) l _).mono ?_
              rintro e w51 ⟨rfl, hB51⟩
              obtain ⟨XF, XR⟩ := X5.out
              have X50 := Aside0.mk (And.intro (XF.trans (Frame.of_below (S := S) hB51)) (XR.move hB51.size (fun k _ hk => hB51.block k hk)))
              replace kl := pw_cell_below hB51 kl
              clear hB51 XF XR k2 f2 k12 f12
              go_wp2_with fail
              refine (atoi_calls l _ (HG.out.frame X50.out.1 HS.out) (hls.out l (by simp))).mono ?_
              rintro e w52 ⟨hB52, hat⟩
              obtain ⟨XF, XR⟩ := X50.out
              have X6 := Aside0.mk (And.intro (XF.trans (Frame.of_below (S := S) hB52)) (XR.move hB52.size (fun k _ hk => hB52.block k hk)))
              have HU6 := Aside0.mk (fun k (hk : w52.heap.size ≤ k) => HU.out k (Nat.le_trans X6.out.1.size hk))
              clear hB52 XF XR
              rcases hat with ⟨n, hn, rfl⟩ | ⟨hn, n, N, rfl⟩
              · have HN := Aside0.mk hn
                clear hn
                by_cases hbig : 8192 < n
                · go_wp2_with fail
                  refine (stop_res ⟨_, _, _, _, _, X6.out.2⟩ HU6.out 413 rfl ht).mono ?_
                  rintro e w6 hres
                  have HR6 := Aside0.mk hres
                  obtain ⟨bb, rfl⟩ := hres.bool
                  clear hres
                  go_wp2_with fail
                  go_ret
                  show ResAt w S g (behindF r) _ w6
                  rw [HF.out]; rw [if_neg c1]; simp only [he, hv, HN.out, if_pos hbig]
                  exact HR6.out.from X6.out.1
                · have k2 := cell_of_heap X6.out.2.cells 2 (r.kept.nx.val g) rfl
                  have f2 := frozen_of_heap X6.out.2.cells 2
                  have k12 := cell_of_heap X6.out.2.cells 12 (.int .i64 r.kept.size) rfl
                  have f12 := frozen_of_heap X6.out.2.cells 12
                  go_wp2_with fail
                  go_ret
                  show ResAt w S g (behindF r) _ _
                  rw [HF.out]; rw [if_neg c1]; simp only [he, hv, HN.out, Bool.not_true, Bool.or_self, Bool.false_eq_true, if_false]; rw [if_neg (show ¬ 8192 < n by omega)]
                  refine ⟨(X6.out.1.putIn X6.out.2.own 12 _).putIn X6.out.2.own 2 _, rfl, vw, vh, vb, vt, T, X6.out.2.turn ?_ (by simp) (same_put (same_put (same_refl g w52) 12 _) 2 _) X6.out.2.wait (fun _ hk => hk) rfl rfl rfl⟩
                  rw [heap_set (heap_set X6.out.2.cells 12 _) 2 _]; simp [cellsRd, Nx.val]
              · have HN := Aside0.mk hn
                clear hn
                go_wp2_with fail
                refine (stop_res ⟨_, _, _, _, _, X6.out.2⟩ HU6.out 413 rfl ht).mono ?_
                rintro e w6 hres
                have HR6 := Aside0.mk hres
                obtain ⟨bb, rfl⟩ := hres.bool
                clear hres
                go_wp2_with fail
                go_ret
                show ResAt w S g (behindF r) _ w6
                rw [HF.out]; rw [if_neg c1]; simp only [he, hv, HN.out]
                exact HR6.out.from X6.out.1
          · go_wp2_with fail
            refine (stop_res ⟨_, _, _, _, _, X5.out.2⟩ HU5.out 400 rfl ht).mono ?_
            rintro e w6 hres
            have HR6 := Aside0.mk hres
            obtain ⟨bb, rfl⟩ := hres.bool
            clear hres
            go_wp2_with fail
            go_ret
            show ResAt w S g (behindF r) _ w6
            rw [HF.out]; rw [if_neg c1]; simp only [he, Bool.true_or]
            exact HR6.out.from X5.out.1
end Go.Proofs.YtafhkpnmolfjeaaGreatDoor.Rq
