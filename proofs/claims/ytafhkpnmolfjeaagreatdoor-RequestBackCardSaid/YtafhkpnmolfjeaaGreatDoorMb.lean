/- Walk of the reader's behind. · Walk of the reader's header. · Walk of the reader's readHead. -/
import Derived.Test.YtafhkpnmolfjeaaGreatDoorMa
import Derived.Shelf.Strings.SlTrimAscii
import Derived.Deep.RegionLaw
/-! ## RqB: Walk of the reader's behind. -/
set_option linter.unusedVariables false
set_option linter.unusedSimpArgs false
namespace Go.Proofs.YtafhkpnmolfjeaaGreatDoor.Rq
open Go.RowKit Go.Proofs.YtafhkpnmolfjeaaGreatDoorW.PrintWords Go.Proofs.YtafhkpnmolfjeaaGreatDoor.PRequestBack

def tConnection : ByteArray := ⟨#[99, 111, 110, 110, 101, 99, 116, 105, 111, 110]⟩
def tClose : ByteArray := ⟨#[99, 108, 111, 115, 101]⟩
def tLength : ByteArray := ⟨#[99, 111, 110, 116, 101, 110, 116, 45, 108, 101, 110, 103, 116, 104]⟩
def tCoding : ByteArray := ⟨#[116, 114, 97, 110, 115, 102, 101, 114, 45, 101, 110, 99, 111, 100, 105, 110, 103]⟩
def tChunked : List UInt8 := [99, 104, 117, 110, 107, 101, 100]
def keepF (r : Rd) : Bool := !r.old && !Lib.containsS (vals r.q.f2 tConnection) tClose
def Rd.kept (r : Rd) : Rd := { r with q := { r.q with f4 := keepF r } }

def behindF (r0 : Rd) : Res :=
  if 1 < (vals r0.q.f2 tLength).length + (vals r0.q.f2 tCoding).length then stopF 400 r0.kept
  else match vals r0.q.f2 tCoding with
    | c :: _ => if c.toList == tChunked then .more { r0.kept with nx := .size } else stopF 400 r0.kept
    | [] => match vals r0.q.f2 tLength with
      | [] => doneF r0.kept
      | l :: _ => if l.toList.isEmpty || !visB 48 57 l then stopF 400 r0.kept
        else match atoiF l with
          | none => stopF 413 r0.kept
          | some n => if 8192 < n then stopF 413 r0.kept else .more { r0.kept with size := n, nx := .body }

set_option maxRecDepth 100000 in
set_option maxHeartbeats 1600000 in
theorem behind_res {w : World} {S : Nat → Prop} {g : Nat} {r : Rd} {vw vh vb vt : Value} {T : Nat → Prop} (h : RdAt w S g r vw vh vb vt T) (hU : ∀ k, w.heap.size ≤ k → S k) (hS : ∀ k, S k → 9 ≤ k) (hG : Glob w) (hl : r.q.f2.length < 1000000000) (ht : r.told.length < 1000000000000) (hls : ∀ l ∈ vals r.q.f2 tLength, l.size ≤ 281474976710656) (old : Bool) (hold : r.old = old) :
    Calls Tryz.prog 107 #[.pointer (some ⟨g, 0, none⟩)] w (ResAt w S g (behindF r)) := by
  have k10 := cell_of_heap h.cells 10 (.bool r.old) rfl
  rw [hold] at k10
  have HO := Aside0.mk hold
  have H := Aside0.mk h
  have HG := Aside0.mk hG
  have HU := Aside0.mk hU
  have HS := Aside0.mk hS
  clear h hold hG hU hS
  have upd : ∀ {w1 : World}, Below w.heap.size w w1 → RdAt w1 S g r vw vh vb vt T → Frame S w (w1.setCell ⟨g, 7, none⟩ (.bool (keepF r))) ∧ RdAt (w1.setCell ⟨g, 7, none⟩ (.bool (keepF r))) S g r.kept vw vh vb vt T := by
    intro w1 hB h1
    refine ⟨(Frame.of_below hB).putIn h1.own 7 _, h1.turn ?_ (by simp) (same_put (same_refl g w1) 7 _) h1.wait (fun _ hk => hk) rfl rfl rfl⟩
    rw [heap_set h1.cells 7 _]; simp [cellsRd, Rd.kept]
  have UPD := Aside0.mk (@upd)
  clear upd
  have hk : keepF r = (!old && !Lib.containsS (vals r.q.f2 tConnection) tClose) := by unfold keepF; rw [HO.out]
  have HK := Aside0.mk hk
  clear hk
  cases old
  case' false =>
    go_enter Tryz.func107, Tryz.ntmps107
    go_wp2_with fail
    refine (all_calls H.out tConnection hl).mono ?_
    rintro e w1 ⟨v1, rfl, hR1, hB1⟩
    have H1 := H.out.move hB1.size (fun k _ hk => hB1.block k hk)
    have X := Aside0.mk (UPD.out hB1 H1)
    have HR1 := Aside0.mk hR1
    have k7 := cell_of_heap H1.cells 7 (.bool r.q.f4) rfl
    have f7 := frozen_of_heap H1.cells 7
    clear hR1 hB1 H1
    go_wp2_with fail
    refine (contains_calls HR1.out tClose).mono ?_
    rintro e w2 ⟨rfl, rfl⟩
    go_wp2_with fail
    rw [HK.out] at X
    simp only [Bool.not_false, Bool.true_and] at X
    revert X
    generalize w2.setCell ⟨g, 7, none⟩ (.bool (!Lib.containsS (vals r.q.f2 tConnection) tClose)) = W3
    intro X
    clear k7 f7 k10 HR1
  case' true =>
    go_enter Tryz.func107, Tryz.ntmps107
    have H1 := H.out
    have X := Aside0.mk (UPD.out (Below.refl _ _) H1)
    have k7 := cell_of_heap H1.cells 7 (.bool r.q.f4) rfl
    have f7 := frozen_of_heap H1.cells 7
    clear H1
    go_wp2_with fail
    rw [HK.out] at X
    simp only [Bool.not_true, Bool.false_and] at X
    revert X
    generalize w.setCell ⟨g, 7, none⟩ (.bool false) = W3
    intro X
    clear k7 f7 k10
  all_goals
    clear HK HO UPD H
    refine (all_calls2 X.out.2 tLength r.q.f2 rfl hl).mono ?_
    rintro e w4 ⟨v4, rfl, hR4, hB4⟩
    obtain ⟨XF, XR⟩ := X.out
    have X4 := Aside0.mk (And.intro (XF.trans (Frame.of_below (S := S) hB4)) (XR.move hB4.size (fun k _ hk => hB4.block k hk)))
    have HR4 := Aside0.mk hR4
    clear hR4 hB4 X XF XR
    go_wp2_with fail
    refine (all_calls2 X4.out.2 tCoding r.q.f2 rfl hl).mono ?_
    rintro e w5 ⟨v5, rfl, hR5, hB5⟩
    have HR4' := Aside0.mk (Kd.R_below HR4.out hB5)
    obtain ⟨XF, XR⟩ := X4.out
    have X5 := Aside0.mk (And.intro (XF.trans (Frame.of_below (S := S) hB5)) (XR.move hB5.size (fun k _ hk => hB5.block k hk)))
    have HR5 := Aside0.mk hR5
    have HU5 := Aside0.mk (fun k (hk : w5.heap.size ≤ k) => HU.out k (Nat.le_trans X5.out.1.size hk))
    clear hR5 hB5 X4 XF XR HR4
    obtain ⟨A4, c4, rfl⟩ := R_slice' HR4'.out
    obtain ⟨A5, c5, rfl⟩ := R_slice' HR5.out
    have hF : behindF r = behindF r := rfl
    conv at hF => rhs; unfold behindF
    have HF := Aside0.mk hF
    clear hF
    have hL := vals_len r.q.f2 tLength
    have hC := vals_len r.q.f2 tCoding
    revert hls HF hL hC HR4' HR5
    generalize vals r.q.f2 tLength = L
    generalize vals r.q.f2 tCoding = C
    intro hls HR4' HR5 HF hL hC
    have hls := Aside0.mk hls
    have k2 := cell_of_heap X5.out.2.cells 2 (r.kept.nx.val g) rfl
    have f2 := frozen_of_heap X5.out.2.cells 2
    have k12 := cell_of_heap X5.out.2.cells 12 (.int .i64 r.kept.size) rfl
    have f12 := frozen_of_heap X5.out.2.cells 12
    by_cases c1 : 1 < L.length + C.length
    · have d1 : (1 : Int) < (L.length : Int) + (C.length : Int) := by omega
      go_wp2_with fail
      refine (stop_res ⟨_, _, _, _, _, X5.out.2⟩ HU5.out 400 rfl ht).mono ?_
      rintro e w6 hres
      have HR6 := Aside0.mk hres
      obtain ⟨bb, rfl⟩ := hres.bool
      clear hres
      go_wp2_with fail
      go_ret
      show ResAt w S g (behindF r) _ w6
      rw [HF.out]; rw [if_pos c1]
      exact HR6.out.from X5.out.1
    · have d1 : ¬ (1 : Int) < (L.length : Int) + (C.length : Int) := by omega
      cases C with
      | cons x xs =>
        have hx0 : xs = [] := by cases xs with | nil => rfl | cons y ys => simp only [List.length_cons] at c1; omega
        subst hx0
        have hL0 : L = [] := by cases L with | nil => rfl | cons y ys => simp only [List.length_cons] at c1; omega
        subst hL0
        clear d1
        obtain ⟨g5, cp5, hA5, _, _⟩ := (Kd.own_of_R HR5.out).form (Nat.succ_pos _)
        injection hA5 with hA5 _ hc5
        subst hA5 hc5
        have kx := (Kd.own_of_R HR5.out).cells (g := g5) rfl 0 (.string x) rfl
        rw [add_at] at kx
        cases hx : (x.toList == tChunked)
        · have HX := Aside0.mk hx
          simp only [tChunked] at hx
          go_wp2_with fail
          refine (stop_res ⟨_, _, _, _, _, X5.out.2⟩ HU5.out 400 rfl ht).mono ?_
          rintro e w6 hres
          have HR6 := Aside0.mk hres
          obtain ⟨bb, rfl⟩ := hres.bool
          clear hres
          go_wp2_with fail
          go_ret
          show ResAt w S g (behindF r) _ w6
          rw [HF.out]; rw [if_neg c1]; simp only [HX.out]
          exact HR6.out.from X5.out.1
        · have HX := Aside0.mk hx
          simp only [tChunked] at hx
          go_wp2_with fail
          go_ret
          show ResAt w S g (behindF r) _ _
          rw [HF.out]; rw [if_neg c1]; simp only [HX.out]
          refine ⟨X5.out.1.putIn X5.out.2.own 2 _, rfl, vw, vh, vb, vt, T, X5.out.2.turn ?_ (by simp) (same_put (same_refl g w5) 2 _) X5.out.2.wait (fun _ hk => hk) rfl rfl rfl⟩
          rw [heap_set X5.out.2.cells 2 _]; simp [cellsRd, Nx.val]
      | nil =>
        cases L with
        | nil =>
          go_wp2_with fail
          refine (done_res ⟨_, _, _, _, _, X5.out.2⟩ HU5.out ht).mono ?_
          rintro e w6 hres
          have HR6 := Aside0.mk hres
          obtain ⟨bb, rfl⟩ := hres.bool
          clear hres
          go_wp2_with fail
          go_ret
          show ResAt w S g (behindF r) _ w6
          rw [HF.out]; rw [if_neg c1]
          exact HR6.out.from X5.out.1
        | cons l ls =>
          have hx0 : ls = [] := by cases ls with | nil => rfl | cons y ys => simp only [List.length_cons] at c1; omega
          subst hx0
          clear d1
          obtain ⟨g4, cp4, hA4, _, _⟩ := (Kd.own_of_R HR4'.out).form (Nat.succ_pos _)
          injection hA4 with hA4 _ hc4
          subst hA4 hc4
          have kl := (Kd.own_of_R HR4'.out).cells (g := g4) rfl 0 (.string l) rfl
          rw [add_at] at kl
          cases he : l.toList.isEmpty
          · cases hv : visB 48 57 l
            · go_wp2_with fail
              refine (visible_calls 48 57 48 57 rfl rfl (by decide) (by decide) l _).mono ?_
              rintro e w51 ⟨rfl, hB51⟩
              obtain ⟨XF, XR⟩ := X5.out
              have X6 := Aside0.mk (And.intro (XF.trans (Frame.of_below (S := S) hB51)) (XR.move hB51.size (fun k _ hk => hB51.block k hk)))
              have HU6 := Aside0.mk (fun k (hk : w51.heap.size ≤ k) => HU.out k (Nat.le_trans X6.out.1.size hk))
              clear hB51 XF XR
              go_wp2_with fail
              refine (stop_res ⟨_, _, _, _, _, X6.out.2⟩ HU6.out 400 rfl ht).mono ?_
              rintro e w6 hres
              have HR6 := Aside0.mk hres
              obtain ⟨bb, rfl⟩ := hres.bool
              clear hres
              go_wp2_with fail
              go_ret
              show ResAt w S g (behindF r) _ w6
              rw [HF.out]; rw [if_neg c1]; simp only [he, hv]
              exact HR6.out.from X6.out.1
            · go_wp2_with fail
              refine (visible_calls 48 57 48 57 rfl rfl (by decide) (by decide) l _).mono ?_
              rintro e w51 ⟨rfl, hB51⟩
              obtain ⟨XF, XR⟩ := X5.out
              have X50 := Aside0.mk (And.intro (XF.trans (Frame.of_below (S := S) hB51)) (XR.move hB51.size (fun k _ hk => hB51.block k hk)))
              replace kl := pw_cell_below hB51 kl
              clear hB51 XF XR k2 f2 k12 f12
              go_wp2_with fail
              refine (atoi_calls l _ (HG.out.frame X50.out.1 HS.out) (hls.out l (by simp))).mono ?_
              rintro e w52 ⟨hB52, hat⟩
              obtain ⟨XF, XR⟩ := X50.out
              have X6 := Aside0.mk (And.intro (XF.trans (Frame.of_below (S := S) hB52)) (XR.move hB52.size (fun k _ hk => hB52.block k hk)))
              have HU6 := Aside0.mk (fun k (hk : w52.heap.size ≤ k) => HU.out k (Nat.le_trans X6.out.1.size hk))
              clear hB52 XF XR
              rcases hat with ⟨n, hn, rfl⟩ | ⟨hn, n, N, rfl⟩
              · have HN := Aside0.mk hn
                clear hn
                by_cases hbig : 8192 < n
                · go_wp2_with fail
                  refine (stop_res ⟨_, _, _, _, _, X6.out.2⟩ HU6.out 413 rfl ht).mono ?_
                  rintro e w6 hres
                  have HR6 := Aside0.mk hres
                  obtain ⟨bb, rfl⟩ := hres.bool
                  clear hres
                  go_wp2_with fail
                  go_ret
                  show ResAt w S g (behindF r) _ w6
                  rw [HF.out]; rw [if_neg c1]; simp only [he, hv, HN.out, if_pos hbig]
                  exact HR6.out.from X6.out.1
                · have k2 := cell_of_heap X6.out.2.cells 2 (r.kept.nx.val g) rfl
                  have f2 := frozen_of_heap X6.out.2.cells 2
                  have k12 := cell_of_heap X6.out.2.cells 12 (.int .i64 r.kept.size) rfl
                  have f12 := frozen_of_heap X6.out.2.cells 12
                  go_wp2_with fail
                  go_ret
                  show ResAt w S g (behindF r) _ _
                  rw [HF.out]; rw [if_neg c1]; simp only [he, hv, HN.out, Bool.not_true, Bool.or_self, Bool.false_eq_true, if_false]; rw [if_neg (show ¬ 8192 < n by omega)]
                  refine ⟨(X6.out.1.putIn X6.out.2.own 12 _).putIn X6.out.2.own 2 _, rfl, vw, vh, vb, vt, T, X6.out.2.turn ?_ (by simp) (same_put (same_put (same_refl g w52) 12 _) 2 _) X6.out.2.wait (fun _ hk => hk) rfl rfl rfl⟩
                  rw [heap_set (heap_set X6.out.2.cells 12 _) 2 _]; simp [cellsRd, Nx.val]
              · have HN := Aside0.mk hn
                clear hn
                go_wp2_with fail
                refine (stop_res ⟨_, _, _, _, _, X6.out.2⟩ HU6.out 413 rfl ht).mono ?_
                rintro e w6 hres
                have HR6 := Aside0.mk hres
                obtain ⟨bb, rfl⟩ := hres.bool
                clear hres
                go_wp2_with fail
                go_ret
                show ResAt w S g (behindF r) _ w6
                rw [HF.out]; rw [if_neg c1]; simp only [he, hv, HN.out]
                exact HR6.out.from X6.out.1
          · go_wp2_with fail
            refine (stop_res ⟨_, _, _, _, _, X5.out.2⟩ HU5.out 400 rfl ht).mono ?_
            rintro e w6 hres
            have HR6 := Aside0.mk hres
            obtain ⟨bb, rfl⟩ := hres.bool
            clear hres
            go_wp2_with fail
            go_ret
            show ResAt w S g (behindF r) _ w6
            rw [HF.out]; rw [if_neg c1]; simp only [he, Bool.true_or]
            exact HR6.out.from X5.out.1
end Go.Proofs.YtafhkpnmolfjeaaGreatDoor.Rq

/-! ## RqH: Walk of the reader's header. -/
set_option linter.unusedVariables false
set_option linter.unusedSimpArgs false
namespace Go.Proofs.YtafhkpnmolfjeaaGreatDoor.Rq
open Go.RowKit Go.Proofs.YtafhkpnmolfjeaaGreatDoorW.PrintWords Go.Proofs.YtafhkpnmolfjeaaGreatDoor.PRequestBack

def lowB (b : UInt8) : UInt8 := if 65 ≤ b.toNat ∧ b.toNat ≤ 90 then b + 32 else b
def okB (b : UInt8) : Bool := (decide (97 ≤ b.toNat) && decide (b.toNat ≤ 122)) || (decide (48 ≤ b.toNat) && decide (b.toNat ≤ 57)) || decide (b.toNat = 45)
def cutC (s : ByteArray) : List UInt8 × List UInt8 × Bool := Lib.cut s.data.toList [58]
def headEarly (s : ByteArray) : Bool := !(cutC s).2.2 || (cutC s).1.isEmpty || !visB 32 126 (str (Lib.replaceAll (cutC s).2.1 [9] [32]))
theorem trim_calls (v : List UInt8) (w : World) (hs : v.length ≤ 9223372036854775807) : Calls Tryz.prog 134 #[.string (str v), .string ⟨#[32, 9]⟩] w fun e w' => e = .returned (.string (str (Lib.trimS v [32, 9]))) ∧ Below w.heap.size w w' :=
  Any.strings_Trim_laid Tryz.lays160 (by kernel_rfl) (str v) ⟨#[32, 9]⟩ w hs (by decide) (ascii_of_all (by decide))
theorem countB_le (s : ByteArray) (hs : s.size < 4294967281) : s.size + Lib.countB s ⟨#[9]⟩ * (⟨#[32]⟩ : ByteArray).size ≤ 140737488355328 := by
  have h := Lib.countB_le ⟨#[9]⟩ (by decide) s.size s (Nat.le_refl _)
  have h1 : (⟨#[32]⟩ : ByteArray).size = 1 := rfl
  rw [h1]
  omega
theorem str_list (a : List UInt8) : (str a).toList = a := by rw [Lib.toList_data]; rfl
theorem cut_calls (s : ByteArray) (w : World) {mx : Int} (hm : w.cell? ⟨1, 0, none⟩ = some (.int .i64 mx)) (hs : s.size < 4294967281) : Calls Tryz.prog 87 #[.string s, .string ⟨#[58]⟩] w fun e w' =>
    e = .returned (.tuple #[.string (str (cutC s).1), .string (str (cutC s).2.1), .bool (cutC s).2.2]) ∧ ∃ n, w' = w.drewN n := Tryz.strings_Cut s ⟨#[58]⟩ mx w hs hm
theorem replace_calls (v : List UInt8) (w : World) {mx : Int} (hm : w.cell? ⟨1, 0, none⟩ = some (.int .i64 mx)) (hs : v.length < 4294967281) : Calls Tryz.prog 133 #[.string (str v), .string ⟨#[9]⟩, .string ⟨#[32]⟩] w fun e w' =>
    e = .returned (.string (str (Lib.replaceAll v [9] [32]))) ∧ Below w.heap.size w w' := Tryz.strings_ReplaceAll (str v) ⟨#[9]⟩ ⟨#[32]⟩ mx w hs hm (by decide) (countB_le _ hs)
theorem cutC_len (s : ByteArray) : (cutC s).1.length ≤ s.size ∧ (cutC s).2.1.length ≤ s.size := by
  have hd : s.data.toList.length = s.size := data_length s
  unfold cutC Lib.cut
  split
  · simp only [List.length_take, List.length_drop]; omega
  · simp [hd]

set_option maxRecDepth 100000 in
set_option maxHeartbeats 800000 in
theorem header_early (p : Option Addr) (s : ByteArray) (w : World) {mx : Int} (hm : w.cell? ⟨1, 0, none⟩ = some (.int .i64 mx)) (hs : s.size < 4294967281) (hb : headEarly s = true) :
    Calls Tryz.prog 106 #[.pointer p, .string s] w fun e w' => e = .returned (.bool false) ∧ Below w.heap.size w w' := by
  have HM := Aside0.mk hm
  clear hm
  go_enter Tryz.func106, Tryz.ntmps106
  go_wp2_with fail
  refine (cut_calls s w HM.out hs).mono ?_
  rintro e w1 ⟨rfl, q, rfl⟩
  have HB := pw_below_drewN (Below.refl w.heap.size w) q
  have HM1 := Aside0.mk (pw_cell_below HB HM.out)
  have hl := (cutC_len s).2
  clear HM
  revert hb HB HM1 hl
  simp only [headEarly]
  generalize (w.drewN q) = w1
  obtain ⟨a, v, ok⟩ := cutC s
  intro hb HB HM1 hl
  have HB := Aside0.mk HB
  have e0 := str_list a
  simp only at hb hl ⊢
  cases ok
  · go_wp2_with fail
    go_ret
    exact ⟨rfl, HB.out⟩
  cases a with
  | nil =>
    go_wp2_with fail
    go_ret
    exact ⟨rfl, HB.out⟩
  | cons x xs =>
    have hv : visB 32 126 (str (Lib.replaceAll v [9] [32])) = false := by simpa using hb
    go_wp2_with fail
    refine (replace_calls v _ HM1.out (by omega)).mono ?_
    rintro e w2 ⟨rfl, hB2⟩
    have HB2 := Aside0.mk (HB.out.trans (hB2.mono HB.out.size))
    clear hB2
    go_wp2_with fail
    refine (visible_calls 32 126 32 126 rfl rfl (by decide) (by decide) _ _).mono ?_
    rintro e w3 ⟨rfl, hB3⟩
    have HB3 := Aside0.mk (HB2.out.trans (hB3.mono HB2.out.size))
    clear hB3
    go_wp2_with fail
    go_ret
    exact ⟨rfl, HB3.out⟩

/-- The row of a header's name in the middle of the loop: k bytes are lowered. -/
structure LowAt (w0 : World) (B N : Nat) (a : List UInt8) (k : Nat) (w : World) : Prop where
  row : ∃ C, w.heap[B]? = some (.cells C 5 (N, N + 1)) ∧ C.size = N ∧ ∀ (j : Nat) (x : UInt8), a[j]? = some x → C[j]? = some (Value.int .u8 (if j < k then lowB x else x).toNat)
  os : w.os = w0.os
  tape : w.tape = w0.tape
  output : w.output = w0.output
  size : w.heap.size = w0.heap.size
  block : ∀ b, b ≠ B → w.heap[b]? = w0.heap[b]?
theorem lowB_up {x : UInt8} (h : 65 ≤ x.toNat ∧ x.toNat ≤ 90) : (lowB x).toNat = x.toNat + 32 := by
  unfold lowB
  rw [if_pos h, UInt8.toNat_add]
  have : (32 : UInt8).toNat = 32 := rfl
  omega
theorem lowB_id {x : UInt8} (h : ¬ (65 ≤ x.toNat ∧ x.toNat ≤ 90)) : lowB x = x := by unfold lowB; rw [if_neg h]
theorem LowAt.up {w0 w : World} {B N : Nat} {a : List UInt8} {k : Nat} {x : UInt8} (h : LowAt w0 B N a k w) (hx : a[k]? = some x) (hu : 65 ≤ x.toNat ∧ x.toNat ≤ 90) : LowAt w0 B N a (k + 1) (w.setCell ⟨B, k, none⟩ (.int .u8 ((x.toNat : Int) + 32))) := by
  obtain ⟨C, hC, hs, hc⟩ := h.row
  have hset : (w.setCell ⟨B, k, none⟩ (.int .u8 ((x.toNat : Int) + 32))).heap[B]? = some (.cells (C.setIfInBounds k (.int .u8 ((x.toNat : Int) + 32))) 5 (N, N + 1)) := by
    obtain ⟨hlt, hk⟩ := Array.getElem?_eq_some_iff.1 hC
    show (w.heap.modify B _)[B]? = _
    rw [Array.getElem?_eq_getElem (by rw [Array.size_modify]; exact hlt), Array.getElem_modify_self, hk]
    rfl
  have hkC : k < C.size := by
    have := hc k x hx
    exact (Array.getElem?_eq_some_iff.1 this).1
  refine ⟨⟨_, hset, by simp [hs], fun j y hy => ?_⟩, h.os, h.tape, h.output, by simpa using h.size, fun b hb => (Below.heap_setCell _ _ _ b hb).trans (h.block b hb)⟩
  by_cases hj : j = k
  · subst hj
    rw [hx] at hy; injection hy with hy; subst hy
    rw [Array.getElem?_setIfInBounds_self_of_lt hkC, if_pos (by omega), lowB_up hu]
    simp
  · rw [Array.getElem?_setIfInBounds_ne (Ne.symm hj), hc j y hy]
    by_cases hl : j < k
    · rw [if_pos hl, if_pos (by omega)]
    · rw [if_neg hl, if_neg (by omega)]
theorem LowAt.same {w0 w : World} {B N : Nat} {a : List UInt8} {k : Nat} {x : UInt8} (h : LowAt w0 B N a k w) (hx : a[k]? = some x) (hu : ¬ (65 ≤ x.toNat ∧ x.toNat ≤ 90)) : LowAt w0 B N a (k + 1) w := by
  obtain ⟨C, hC, hs, hc⟩ := h.row
  refine ⟨⟨C, hC, hs, fun j y hy => ?_⟩, h.os, h.tape, h.output, h.size, h.block⟩
  by_cases hj : j = k
  · subst hj
    rw [hx] at hy; injection hy with hy; subst hy
    rw [hc j x hx, if_neg (by omega), if_pos (by omega), lowB_id hu]
  · rw [hc j y hy]
    by_cases hl : j < k
    · rw [if_pos hl, if_pos (by omega)]
    · rw [if_neg hl, if_neg (by omega)]
theorem ok_snoc {a : List UInt8} {k : Nat} {x : UInt8} (h : ∀ (j : Nat) (y : UInt8), j < k → a[j]? = some y → okB (lowB y) = true) (hx : a[k]? = some x) (ho : okB (lowB x) = true) : ∀ (j : Nat) (y : UInt8), j < k + 1 → a[j]? = some y → okB (lowB y) = true := by
  intro j y hj hy
  by_cases hjk : j = k
  · subst hjk; rw [hx] at hy; injection hy with hy; subst hy; exact ho
  · exact h j y (by omega) hy
theorem all_of {a : List UInt8} {k : Nat} (h : ∀ (j : Nat) (y : UInt8), j < k → a[j]? = some y → okB (lowB y) = true) (hk : a.length ≤ k) : (a.map lowB).all okB = true := by
  rw [List.all_eq_true]
  intro y hy
  obtain ⟨x, hx, rfl⟩ := List.mem_map.1 hy
  obtain ⟨j, hj, rfl⟩ := List.getElem_of_mem hx
  exact h j _ (by omega) (List.getElem?_eq_getElem hj)
theorem LowAt.below {w w3 w0 wr : World} {B N : Nat} {a : List UInt8} {k : Nat} (h : LowAt w0 B N a k wr) (h3 : Below w.heap.size w w3) (hB : w3.heap.size = B) (hold : ∀ j, j < B → w0.heap[j]? = w3.heap[j]?) (hsz : w0.heap.size = B + 1) (h1 : w0.os = w3.os) (h2 : w0.tape = w3.tape) (h4 : w0.output = w3.output) : Below w.heap.size w wr :=
  ⟨h.os.trans (h1.trans h3.os), h.tape.trans (h2.trans h3.tape), h.output.trans (h4.trans h3.output), by have := h3.size; rw [h.size]; omega, fun j hj => by
    have := h3.size
    exact (h.block j (by omega)).trans ((hold j (by omega)).trans (h3.block j hj))⟩
/-- What the row reads as, when all of it is lowered. -/
theorem LowAt.text {w0 wr W : World} {B N : Nat} {a : List UInt8} {k : Nat} (h : LowAt w0 B N a k wr) (hk : a.length ≤ k) (hb : Below wr.heap.size wr W) (cap : Nat) : (convert 40 9 (.slice (some ⟨B, 0, none⟩) a.length cap)).run Tryz.prog W = .ok (.string (str (a.map lowB))) W := by
  obtain ⟨C, hC, hs, hc⟩ := h.row
  rw [← strOfNums_ints]
  refine run_convert_bytes_arg W 40 5 Tryz.underlying40 Tryz.underlying5 B 0 a.length cap (ints (a.map lowB)) (by simp [ints]) (fun i hi => ?_) 9 Tryz.underlying9
  refine pw_cell_below hb ?_
  have h1 := hc i _ (List.getElem?_eq_getElem hi)
  rw [if_pos (by omega)] at h1
  rw [getD_ints]
  simp [World.cell?, hC, h1, List.getD_eq_getElem?_getD, List.getElem?_eq_getElem hi]
theorem not_all {a : List UInt8} {k : Nat} {x : UInt8} (hx : a[k]? = some x) (ho : okB (lowB x) = false) : ¬ (a.map lowB).all okB = true := by
  intro h
  have := List.all_eq_true.1 h (lowB x) (List.mem_map.2 ⟨x, List.mem_of_getElem? hx, rfl⟩)
  rw [ho] at this; cases this
theorem info38h : (Tryz.prog.info? 38).map (fun i => (i.zero, i.size, i.bytes)) = some (some (.agg #[.string ⟨#[]⟩, .string ⟨#[]⟩]), 2, 32) := by kernel_rfl
theorem grown_heads {W w1 : World} {g : Nat} {cs : Array Value} {T : Nat → Prop} {vh : Value} {l : List S38} (hc : W.heap[g]? = some (.cells cs 56 (0, 0))) (hR : k38.R 38 W 0 T vh l) (hg : W.grownBy w1 vh.ownBlock) : w1.heap[g]? = some (.cells cs 56 (0, 0)) := by
  refine (hg.block g (Array.getElem?_eq_some_iff.1 hc).1 (fun e => ?_)).trans hc
  obtain ⟨c, h⟩ := R_typed hR g e.symm
  exact typed_ne h hc (by decide) rfl
theorem RdAt.pushHead {w5 w6 : World} {S : Nat → Prop} {g : Nat} {r : Rd} {vw vh vb vt v1 : Value} {T : Nat → Prop} (h : RdAt w5 S g r vw vh vb vt T) (hU : ∀ k, w5.heap.size ≤ k → S k) (hg : w5.grownBy w6 vh.ownBlock) (p : S38) (hR : k38.R 38 w6 0 (fun k => vh.ownBlock = some k ∨ w5.heap.size ≤ k) v1 (r.q.f2 ++ [p])) :
    Frame S w5 (w6.setCell ⟨g, 5, none⟩ v1) ∧ RdAt (w6.setCell ⟨g, 5, none⟩ v1) S g { r with q := { r.q with f2 := r.q.f2 ++ [p] } } vw v1 vb vt (fun k => T k ∧ k < w6.heap.size) := by
  have hg6 := grown_heads h.cells h.heads hg
  have hne : ∀ (k : Nat) (c : Array Value) (t : TypeId), t ≠ 38 → w5.heap[k]? = some (.cells c t (0, 0)) → some k ≠ vh.ownBlock := by
    intro k c t ht hk e
    obtain ⟨c', h'⟩ := R_typed h.heads k e.symm
    exact typed_ne h' hk (Ne.symm ht) rfl
  refine ⟨(Frame.of_grown hg (fun k e => (h.sh k e).1)).putIn h.own 5 _, ?_⟩
  refine RdAt.make hg6 (same_put (same_refl g w6) 5 _) (by simp) ?_ h.own (h.wait.move fun k c _ hk => hg.block k (Array.getElem?_eq_some_iff.1 hk).1 (hne k c 5 (by decide) hk)) (own_other h.body hg ?_) (U := fun k => vh.ownBlock = some k ∨ w5.heap.size ≤ k) hR (Kd.R_grown h.told hg fun k hk e => (h.sh k e.symm).2 hk) ?_ h.sb ?_ ?_
  · rw [heap_set hg6 5 _]; simp [cellsRd]
  · obtain ⟨_, inner, ho, _⟩ := h.heads
    exact own_type_ne h.body ho (by decide)
  · intro k hk
    have := h.sw k hk
    exact ⟨this.1, Nat.lt_of_lt_of_le this.2.1 hg.size, this.2.2⟩
  · intro k hk _
    rcases hR.1 k hk with h1 | h1
    · exact h.sh k h1
    · exact ⟨hU k h1, fun hT => by have := (h.st k hT).2; omega⟩
  · intro k hk _
    exact (h.st k hk).1
def HdPost (w : World) (S : Nat → Prop) (g : Nat) (r : Rd) (vw vh vb vt : Value) (T : Nat → Prop) (a v : List UInt8) (e : Ending) (w' : World) : Prop :=
  if (a.map lowB).all okB = true then e = .returned (.bool true) ∧ Frame S w w' ∧ ∃ vh1 T1, RdAt w' S g { r with q := { r.q with f2 := r.q.f2 ++ [⟨str (a.map lowB), str (Lib.trimS v [32, 9])⟩] } } vw vh1 vb vt T1
  else e = .returned (.bool false) ∧ Below w.heap.size w w'
set_option maxRecDepth 100000 in
set_option maxHeartbeats 1600000 in
theorem header_main {w : World} {S : Nat → Prop} {g : Nat} {r : Rd} {vw vh vb vt : Value} {T : Nat → Prop} (h : RdAt w S g r vw vh vb vt T) (hU : ∀ k, w.heap.size ≤ k → S k) (s : ByteArray) {mx : Int} (hm : w.cell? ⟨1, 0, none⟩ = some (.int .i64 mx)) (hs : s.size < 4294967281) (hl2 : r.q.f2.length < 1000000000) (a v : List UInt8) (hcut : cutC s = (a, v, true)) (ha : a ≠ []) (hv : visB 32 126 (str (Lib.replaceAll v [9] [32])) = true) :
    Calls Tryz.prog 106 #[.pointer (some ⟨g, 0, none⟩), .string s] w (HdPost w S g r vw vh vb vt T a v) := by
  have HM := Aside0.mk hm
  have H := Aside0.mk h
  have HU := Aside0.mk hU
  have HC := Aside0.mk hcut
  clear hm h hU hcut
  go_enter Tryz.func106, Tryz.ntmps106
  go_wp2_with fail
  refine (cut_calls s w HM.out hs).mono ?_
  rintro e w1 ⟨rfl, q, rfl⟩
  have HB := pw_below_drewN (Below.refl w.heap.size w) q
  have HM1 := Aside0.mk (pw_cell_below HB HM.out)
  have hl := cutC_len s
  rw [HC.out] at hl ⊢
  clear HM
  revert HB HM1 hl
  generalize (w.drewN q) = w1
  intro HB HM1 hl
  have HB := Aside0.mk HB
  have e0 := str_list a
  simp only at hl ⊢
  obtain ⟨hl1, hl⟩ := hl
  have ha2 : a.isEmpty = false := by cases a <;> simp_all
  · skip
    go_wp2_with fail
    refine (replace_calls v _ HM1.out (by omega)).mono ?_
    rintro e w2 ⟨rfl, hB2⟩
    have HB2 := Aside0.mk (HB.out.trans (hB2.mono HB.out.size))
    clear hB2
    go_wp2_with fail
    refine (visible_calls 32 126 32 126 rfl rfl (by decide) (by decide) _ _).mono ?_
    rintro e w3 ⟨rfl, hB3⟩
    have HB3 := Aside0.mk (HB2.out.trans (hB3.mono HB2.out.size))
    clear hB3 HB2 HB HM1 e0
    have kb : ∀ W, (convert 9 40 (.string (str a))).run Tryz.prog W = .ok (.slice (some ⟨W.heap.size, 0, none⟩) a.length (grownCap W a.length 0 5)) (Lib.bytesWorld W 5 (str a)) := fun W => print_bytes (P := Tryz.prog) 9 40 5 Tryz.underlying9 Tryz.underlying40 Tryz.underlying5 (str a) W
    clear HC
    go_wp2_with fail
    have hrow := Lib.bytesWorld_at_new w3 5 (str a)
    have hold := fun j hj => Lib.bytesWorld_at_old w3 5 (str a) j hj
    have hsz := Lib.bytesWorld_size w3 5 (str a)
    have hos : (Lib.bytesWorld w3 5 (str a)).os = w3.os ∧ (Lib.bytesWorld w3 5 (str a)).tape = w3.tape ∧ (Lib.bytesWorld w3 5 (str a)).output = w3.output := ⟨rfl, rfl, rfl⟩
    have hcells : ∀ (j : Nat) (x : UInt8), a[j]? = some x → (Lib.bytesCells w3 5 (str a))[j]? = some (Value.int .u8 x.toNat) := by
      intro j x hx
      have hj := (List.getElem?_eq_some_iff.1 hx).1
      have hs' : j < (str a).data.size := hj
      unfold Lib.bytesCells
      rw [Array.getElem?_append_left (by simpa using hs'), Array.getElem?_map]
      have h2 : (str a).data[j]? = a[j]? := by simp [str]
      rw [h2, hx]; rfl
    clear kb
    revert hrow hold hsz hos hcells
    generalize Lib.bytesWorld w3 5 (str a) = W4
    generalize grownCap w3 a.length 0 5 = cap
    generalize Lib.bytesCells w3 5 (str a) = C0
    generalize hB : w3.heap.size = B
    intro hrow hold hsz hos hcells
    have L0 : LowAt W4 B C0.size a 0 W4 := ⟨⟨C0, hrow, rfl, fun j x hx => by rw [if_neg (by omega)]; exact hcells j x hx⟩, rfl, rfl, rfl, rfl, fun _ _ => rfl⟩
    have Z := Aside0.mk (And.intro HB3.out (And.intro hB (And.intro hrow (And.intro hold (And.intro hsz hos)))))
    clear hrow hold hsz hos hcells HB3 hB
    have hlen : a.length ≤ 9223372036854775807 := by omega
    go_loopw [33] (fun i wr => ∃ k : Nat, k ≤ a.length ∧ i = .int .i64 k ∧ LowAt W4 B C0.size a k wr ∧ (∀ (j : Nat) (x : UInt8), j < k → a[j]? = some x → okB (lowB x) = true)) (fun i _ => a.length - (intOf i).toNat)
    case atStart => exact ⟨0, Nat.zero_le _, rfl, L0, fun j x hj => absurd hj (by omega)⟩
    case round =>
      obtain ⟨k, hk, rfl, hL, hok⟩ := hrel
      by_cases hlt : k < a.length
      · have hx : a[k]? = some a[k] := List.getElem?_eq_getElem hlt
        generalize a[k] = x at hx
        obtain ⟨C, hC, hCs, hCe⟩ := hL.row
        have kc : wr.cell? ⟨B, k, none⟩ = some (.int .u8 x.toNat) := by
          have := hCe k x hx
          rw [if_neg (by omega)] at this
          simp [World.cell?, hC, this]
        have xr := x.toNat_lt
        have LL := Aside0.mk hL
        have OK := Aside0.mk hok
        have HX := Aside0.mk hx
        clear hL hok hx hC hCs hCe L0
        have fz : wr.frozen? ⟨B, k, none⟩ = false := by
          obtain ⟨C, hC, hCs, hCe⟩ := LL.out.row
          have hkC := (Array.getElem?_eq_some_iff.1 (hCe k x HX.out)).1
          simp [World.frozen?, hC]; omega
        by_cases hu : 65 ≤ x.toNat ∧ x.toNat ≤ 90
        · have HU2 := Aside0.mk hu
          obtain ⟨hu1, hu2⟩ := hu
          go_wp2_with fail
          refine ⟨⟨k + 1, by omega, by go_num, LL.out.up HX.out HU2.out, ok_snoc OK.out HX.out ?_⟩, by simp [intOf]; omega⟩
          have := lowB_up HU2.out
          simp [okB, this]; omega
        · have HU2 := Aside0.mk hu
          cases ho : okB x
          · have HO := Aside0.mk ho
            simp only [okB, Bool.or_eq_false_iff, Bool.and_eq_false_iff, decide_eq_false_iff_not] at ho
            have hn45 : ((x.toNat : Int) != 45) = true := by rw [bne_iff_ne]; omega
            go_wp2_with fail
            all_goals go_ret
            all_goals
              show HdPost w S g r vw vh vb vt T a v _ wr
              unfold HdPost
              rw [if_neg (not_all HX.out (by rw [lowB_id HU2.out]; exact HO.out))]
              exact ⟨rfl, LL.out.below Z.out.1 Z.out.2.1 Z.out.2.2.2.1 Z.out.2.2.2.2.1 Z.out.2.2.2.2.2.1 Z.out.2.2.2.2.2.2.1 Z.out.2.2.2.2.2.2.2⟩
          · have HO := Aside0.mk ho
            simp only [okB, Bool.or_eq_true, Bool.and_eq_true, decide_eq_true_eq] at ho
            go_wp2_with fail
            all_goals exact ⟨⟨k + 1, by omega, by go_num, LL.out.same HX.out HU2.out, ok_snoc OK.out HX.out (by rw [lowB_id HU2.out]; exact HO.out)⟩, by simp [intOf]; omega⟩
      · have hall := all_of hok (by omega)
        have HBr := hL.below Z.out.1 Z.out.2.1 Z.out.2.2.2.1 Z.out.2.2.2.2.1 Z.out.2.2.2.2.2.1 Z.out.2.2.2.2.2.2.1 Z.out.2.2.2.2.2.2.2
        have R := Aside0.mk (H.out.move HBr.size (fun k _ hk => HBr.block k hk))
        obtain ⟨Ah, ch, hvh⟩ := R_slice R.out.heads
        subst hvh
        have tx := fun W hW => hL.text (W := W) (by omega) hW cap
        have TX := Aside0.mk tx
        have cv := tx wr (Below.refl _ _)
        have cvd := tx wr.drew (below_drew (Below.refl _ _))
        have k5 := cell_of_heap R.out.cells 5 (.slice Ah r.q.f2.length ch) rfl
        have f5 := frozen_of_heap R.out.cells 5
        have Y := Aside0.mk (And.intro hall (And.intro HBr hL))
        clear hall HBr hL hok tx L0
        go_wp2_with fail
        go_region_law (first
          | (refine Kd.R_append_step k38 (w0 := w5) 0 rfl (.tmp 77) (.tmp 83) 22 38 _ 32 rfl Tryz.underlying22 info38h rfl (by decide) (by decide) (.slice Ah r.q.f2.length ch) r.q.f2 ⟨str (a.map lowB), str (Lib.trimS v [32, 9])⟩ [.string (str (a.map lowB)), .string (str (Lib.trimS v [32, 9]))] (fun k => (Value.slice Ah r.q.f2.length ch).ownBlock = some k ∨ w5.heap.size ≤ k) (fun _ => False) (by simp [Act.eval, Act.put]) (by simp [Act.eval, Act.put]) (k38_mkM _ _ _ _) (fun _ h => h.elim) (fun k hk => Or.inr (by simpa using hk)) (Kd.R_mono hR5.out (fun _ hk => Or.inl hk)) (Below.refl _ _) (Nat.zero_le _) (by omega) ?_
             intro v1 w6 hR hB6 hg hat
             obtain ⟨A1, c1, hv1⟩ := R_slice hR
             rw [show (r.q.f2 ++ [(⟨str (a.map lowB), str (Lib.trimS v [32, 9])⟩ : S38)]).length = r.q.f2.length + 1 from by simp] at hv1
             subst hv1
             have hg6 := grown_heads R5.out.cells hR5.out hg
             have q5 := cell_of_heap hg6 5 (.slice Ah r.q.f2.length ch) rfl
             have p5 := frozen_of_heap hg6 5
             have X := Aside0.mk (And.intro hR (And.intro hg hg6))
             clear hR hB6 hg hat hg6)
          | (go_simp
             go_at_call 134
             refine (trim_calls v _ (by omega)).mono ?_
             rintro e w5 ⟨rfl, hB5⟩
             have hB5' := (Below.refl wr.heap.size wr).trans (⟨hB5.os, hB5.tape, hB5.output, hB5.size, hB5.block⟩ : Below wr.heap.size wr w5)
             have B5 := Aside0.mk hB5'
             have R5 := Aside0.mk (R.out.move hB5'.size (fun k _ hk => hB5'.block k hk))
             have hR5 := Aside0.mk R5.out.heads
             have q5 := cell_of_heap R5.out.cells 5 (.slice Ah r.q.f2.length ch) rfl
             have cv5 := TX.out w5 hB5'
             have hlt5 := R5.out.lt
             clear hB5 hB5'))
        all_goals
          have PH := Aside0.mk (RdAt.pushHead R5.out (fun k hk => HU.out k (by have := Y.out.2.1.size; have := B5.out.size; omega)) X.out.2.1 ⟨str (a.map lowB), str (Lib.trimS v [32, 9])⟩ X.out.1)
          revert PH
          generalize (w6.setCell ⟨g, 5, none⟩ (.slice A1 (r.q.f2.length + 1) c1)) = w7
          intro PH
          clear q5 p5 cv cvd cv5 k5 f5
          go_wp2_with fail
          go_ret
          show HdPost w S g r vw (.slice Ah r.q.f2.length ch) vb vt T a v _ w7
          unfold HdPost
          rw [if_pos Y.out.1]
          exact ⟨rfl, ((Frame.of_below Y.out.2.1).trans (Frame.of_below B5.out)).trans PH.out.1, _, _, PH.out.2⟩
end Go.Proofs.YtafhkpnmolfjeaaGreatDoor.Rq

/-! ## RqR: Walk of the reader's readHead. -/
set_option linter.unusedVariables false
set_option linter.unusedSimpArgs false
namespace Go.Proofs.YtafhkpnmolfjeaaGreatDoor.Rq
open Go.RowKit Go.Proofs.YtafhkpnmolfjeaaGreatDoorW.PrintWords Go.Proofs.YtafhkpnmolfjeaaGreatDoor.PRequestBack

def firstF (s : ByteArray) : Option (ByteArray × ByteArray × Bool) :=
  match parts3 s with
  | [a, b, d] => if goodFirst a b && (is10 d || is11 d) then some (a, b, is10 d) else none
  | _ => none
def headerF (s : ByteArray) : Option S38 :=
  if headEarly s then none
  else if ((cutC s).1.map lowB).all okB then some ⟨str ((cutC s).1.map lowB), str (Lib.trimS (cutC s).2.1 [32, 9])⟩ else none
inductive HStep where
  | stop (st : Int)
  | need
  | next (r : Rd)
  | behind (r : Rd)
/-- The reader behind a line of i bytes. -/
def Rd.line (r : Rd) (i : Nat) : Rd := { r with wait := r.wait.drop (i + 2), used := r.used + (i + 2), head := r.head + (i + 2), lines := r.lines + 1 }
def headStep (r : Rd) : HStep :=
  if crlf r.wait < 0 ∨ 2048 - r.head < crlf r.wait + 2 then (if 2048 - r.head ≤ r.wait.length then .stop 431 else .need)
  else
    if 1 < r.lines + 1 ∧ r.wait.take (crlf r.wait).toNat = [] then .behind (r.line (crlf r.wait).toNat)
    else if 33 < r.lines + 1 then .stop 431
    else if r.lines + 1 = 1 then
      match firstF (str (r.wait.take (crlf r.wait).toNat)) with
      | none => .stop 400
      | some (a, b, o) => .next { r.line (crlf r.wait).toNat with q := { r.q with f0 := a, f1 := b }, old := o || r.old }
    else match headerF (str (r.wait.take (crlf r.wait).toNat)) with
      | none => .stop 400
      | some p => .next { r.line (crlf r.wait).toNat with q := { r.q with f2 := r.q.f2 ++ [p] } }
def headF : Nat → Rd → Res
  | 0, r => .wait r
  | n + 1, r => match headStep r with
    | .stop st => stopF st r
    | .need => .wait r
    | .next r' => headF n r'
    | .behind r' => behindF r'
/-- What holds of a reader in its head. -/
structure HInv (r : Rd) : Prop where
  used0 : 0 ≤ r.used
  used : r.used + r.wait.length ≤ 1000000000000000
  wait : r.wait.length < 4294967281
  head0 : 0 ≤ r.head
  head : r.head ≤ 2048
  lines0 : 0 ≤ r.lines
  lines : r.lines ≤ 34
  f2 : r.q.f2.length ≤ r.lines.toNat
  vals : ∀ p ∈ r.q.f2, p.f1.size ≤ 4294967281
  told : r.told.length < 1000000000000
theorem crlf_size (xs : List UInt8) (h : ¬ crlf xs < 0) : crlf xs + 2 ≤ xs.length := by
  rcases crlf_range xs with h1 | h1
  · exact h1.2
  · omega
theorem HInv.line {r : Rd} (h : HInv r) (hl : r.lines ≤ 33) (i : Nat) (hi : crlf r.wait = i) (hm : ¬ 2048 - r.head < (i : Int) + 2) : HInv (r.line i) := by
  have hc := crlf_size r.wait (by omega)
  have h1 := h.used0; have h2 := h.used; have h3 := h.wait; have h4 := h.head0; have h5 := h.head; have h6 := h.lines0; have h7 := h.f2
  refine ⟨?_, ?_, ?_, ?_, ?_, ?_, ?_, ?_, h.vals, h.told⟩ <;> simp only [Rd.line, List.length_drop] <;> omega

theorem after_line {w w2 : World} {S : Nat → Prop} {g : Nat} {r1 : Rd} {vw1 vh vb vt l : Value} {T : Nat → Prop} {i : Nat} (h2 : RdAt w2 S g { r1 with wait := r1.wait.drop (i + 2), used := r1.used + (i + 2) } vw1 vh vb vt T) (hf : Frame S w w2) (hc : Cut5 w2 l (r1.wait.take i)) :
    Frame S w (((w2.setCell ⟨g, 8, none⟩ (.int .i64 (r1.head + (r1.used + ((i : Int) + 2) - r1.used)))).setCell ⟨g, 9, none⟩ (.int .i64 (r1.lines + 1))).drew) ∧ RdAt (((w2.setCell ⟨g, 8, none⟩ (.int .i64 (r1.head + (r1.used + ((i : Int) + 2) - r1.used)))).setCell ⟨g, 9, none⟩ (.int .i64 (r1.lines + 1))).drew) S g (r1.line i) vw1 vh vb vt T ∧ Cut5 (((w2.setCell ⟨g, 8, none⟩ (.int .i64 (r1.head + (r1.used + ((i : Int) + 2) - r1.used)))).setCell ⟨g, 9, none⟩ (.int .i64 (r1.lines + 1))).drew) l (r1.wait.take i) := by
  have hg := ((Chg.start h2.cells).put 8 (.int .i64 (r1.head + (r1.used + ((i : Int) + 2) - r1.used)))).put 9 (.int .i64 (r1.lines + 1))
  have hd := hg.drew
  refine ⟨hf.trans (hd.frame.mono (fun k _ hk => hk ▸ h2.own)), h2.turn ?_ hd.frame.size hd.same h2.wait (fun _ hk => hk) rfl rfl rfl, hc.over hd.frame h2.cells⟩
  rw [hd.heap]
  simp [cellsRd, Rd.line]
  omega
theorem vals_size {l : List S38} {name : ByteArray} (h : ∀ p ∈ l, p.f1.size ≤ 4294967281) {x : ByteArray} (hx : x ∈ vals l name) : x.size ≤ 281474976710656 := by
  obtain ⟨p, hp, rfl⟩ := List.mem_map.1 hx
  have := h p (List.mem_filter.1 hp).1
  omega
theorem headerF_size {s : ByteArray} {p : S38} (h : headerF s = some p) (hs : s.size ≤ 4294967281) : p.f1.size ≤ 4294967281 := by
  unfold headerF at h
  split at h
  · cases h
  · split at h
    · injection h with h
      subst h
      have h1 := (cutC_len s).2
      have h2 : (Lib.trimS (cutC s).2.1 [32, 9]).length ≤ (cutC s).2.1.length := by
        have h3 := (List.dropWhile_sublist ([32, 9].contains · : UInt8 → Bool) (l := Lib.trimRightS (cutC s).2.1 [32, 9])).length_le
        have h4 := (List.dropWhile_sublist ([32, 9].contains · : UInt8 → Bool) (l := (cutC s).2.1.reverse)).length_le
        simp only [List.length_reverse] at h4
        unfold Lib.trimS Lib.trimLeftS
        refine Nat.le_trans h3 ?_
        unfold Lib.trimRightS
        rw [List.length_reverse]
        exact h4
      rw [str_size]
      omega
    · cases h
def FirstPost (w : World) (S : Nat → Prop) (g : Nat) (r : Rd) (s : ByteArray) (e : Ending) (w' : World) : Prop :=
  Frame S w w' ∧ ((firstF s = none ∧ e = .returned (.bool false) ∧ ∃ r', IsRd w' S g r' ∧ r'.told = r.told) ∨
    ∃ a b o, firstF s = some (a, b, o) ∧ e = .returned (.bool true) ∧ IsRd w' S g { r with q := { r.q with f0 := a, f1 := b }, old := o || r.old })
theorem first_res {w : World} {S : Nat → Prop} {g : Nat} {r : Rd} {vw vh vb vt : Value} {T : Nat → Prop} (h : RdAt w S g r vw vh vb vt T) (s : ByteArray) {mx : Int} (hm : w.cell? ⟨1, 0, none⟩ = some (.int .i64 mx)) (hs : s.size < 4294967281) :
    Calls Tryz.prog 105 #[.pointer (some ⟨g, 0, none⟩), .string s] w (FirstPost w S g r s) := by
  have hlen := parts3_len s
  rcases Nat.lt_or_ge (parts3 s).length 3 with h3 | h3
  · refine (first_short _ s w hm hs h3).mono ?_
    rintro e w' ⟨rfl, hB⟩
    refine ⟨Frame.of_below hB, .inl ⟨?_, rfl, r, ⟨vw, vh, vb, vt, T, h.move hB.size (fun k _ hk => hB.block k hk)⟩, rfl⟩⟩
    unfold firstF
    split
    · rename_i hp; rw [hp] at h3; simp at h3
    · rfl
  · obtain ⟨a, b, d, hp⟩ : ∃ a b d, parts3 s = [a, b, d] := by
      match hq : parts3 s, hlen, h3 with
      | [a, b, d], _, _ => exact ⟨a, b, d, rfl⟩
      | [], _, h => simp at h
      | [_], _, h => simp at h
      | [_, _], _, h => simp at h
      | _ :: _ :: _ :: _ :: _, h, _ => simp at h
    cases hg : goodFirst a b
    · refine (first_bad _ s w hm hs a b d hp hg).mono ?_
      rintro e w' ⟨rfl, hB⟩
      refine ⟨Frame.of_below hB, .inl ⟨?_, rfl, r, ⟨vw, vh, vb, vt, T, h.move hB.size (fun k _ hk => hB.block k hk)⟩, rfl⟩⟩
      unfold firstF
      rw [hp]
      simp [hg]
    · refine (first_good h s hm hs a b d hp hg).mono ?_
      rintro e w' ⟨rfl, hf, hr⟩
      refine ⟨hf.mono (fun k _ hk => hk ▸ h.own), ?_⟩
      cases hv : is10 d || is11 d
      · refine .inl ⟨?_, rfl, _, ⟨vw, vh, vb, vt, T, hr⟩, rfl⟩
        unfold firstF
        rw [hp]
        simp [hg, hv]
      · refine .inr ⟨a, b, is10 d, ?_, rfl, ⟨vw, vh, vb, vt, T, hr⟩⟩
        unfold firstF
        rw [hp]
        simp [hg, hv]
def HeadPost (w : World) (S : Nat → Prop) (g : Nat) (r : Rd) (s : ByteArray) (e : Ending) (w' : World) : Prop :=
  Frame S w w' ∧ ((headerF s = none ∧ e = .returned (.bool false) ∧ ∃ r', IsRd w' S g r' ∧ r'.told = r.told) ∨
    ∃ p, headerF s = some p ∧ e = .returned (.bool true) ∧ IsRd w' S g { r with q := { r.q with f2 := r.q.f2 ++ [p] } })
theorem header_res {w : World} {S : Nat → Prop} {g : Nat} {r : Rd} {vw vh vb vt : Value} {T : Nat → Prop} (h : RdAt w S g r vw vh vb vt T) (hU : ∀ k, w.heap.size ≤ k → S k) (s : ByteArray) {mx : Int} (hm : w.cell? ⟨1, 0, none⟩ = some (.int .i64 mx)) (hs : s.size < 4294967281) (hl2 : r.q.f2.length < 1000000000) :
    Calls Tryz.prog 106 #[.pointer (some ⟨g, 0, none⟩), .string s] w (HeadPost w S g r s) := by
  cases he : headEarly s
  · have he' := he
    simp only [headEarly, Bool.or_eq_false_iff, Bool.not_eq_false'] at he'
    obtain ⟨⟨h1, h2⟩, h3⟩ := he'
    refine (header_main h hU s hm hs hl2 (cutC s).1 (cutC s).2.1 (by rw [← h1]) (by intro h0; rw [h0] at h2; simp at h2) h3).mono ?_
    intro e w' hp
    unfold HdPost at hp
    by_cases ha : ((cutC s).1.map lowB).all okB = true
    · rw [if_pos ha] at hp
      obtain ⟨rfl, hf, vh1, T1, hr⟩ := hp
      refine ⟨hf, .inr ⟨_, ?_, rfl, ⟨_, _, _, _, _, hr⟩⟩⟩
      unfold headerF
      rw [he, ha]; simp
    · rw [if_neg ha] at hp
      obtain ⟨rfl, hB⟩ := hp
      refine ⟨Frame.of_below hB, .inl ⟨?_, rfl, r, ⟨vw, vh, vb, vt, T, h.move hB.size (fun k _ hk => hB.block k hk)⟩, rfl⟩⟩
      unfold headerF
      rw [he, if_neg (by decide), if_neg ha]
  · refine (header_early _ s w hm hs he).mono ?_
    rintro e w' ⟨rfl, hB⟩
    refine ⟨Frame.of_below hB, .inl ⟨?_, rfl, r, ⟨vw, vh, vb, vt, T, h.move hB.size (fun k _ hk => hB.block k hk)⟩, rfl⟩⟩
    unfold headerF
    rw [he]; simp

set_option maxRecDepth 100000 in
set_option maxHeartbeats 3200000 in
theorem readHead_res {w : World} {S : Nat → Prop} {g : Nat} {r : Rd} (h : IsRd w S g r) (hI : HInv r) (hU : ∀ k, w.heap.size ≤ k → S k) (hS : ∀ k, S k → 9 ≤ k) (hG : Glob w) :
    Calls Tryz.prog 75 #[.pointer (some ⟨g, 0, none⟩)] w (ResAt w S g (headF (r.wait.length + 1) r)) := by
  have H := Aside0.mk h
  have HG := Aside0.mk hG
  have HU := Aside0.mk hU
  have HS := Aside0.mk hS
  have HI := Aside0.mk hI
  obtain ⟨mx, hmx⟩ := HG.out.maxLen
  have HM := Aside0.mk hmx
  clear h hG hU hS hI hmx
  go_enter Tryz.func75, Tryz.ntmps75
  go_wp2_with fail
  go_step3
  go_wp2_with fail
  go_step3
  go_wp2_with fail
  go_loopg [3] (r.wait.length + 1) (fun kq v3 w' => ∃ r1, Aside0 (IsRd w' S g r1) ∧ Aside0 (Frame S w w') ∧ Aside0 (headF kq r1 = headF (r.wait.length + 1) r) ∧ Aside0 (HInv r1) ∧ Aside0 (r1.wait.length < kq))
  case atStart => exact ⟨r, H, ⟨Frame.refl _ _⟩, ⟨rfl⟩, HI, ⟨by omega⟩⟩
  case round =>
    obtain ⟨r1, hR, hF, hE, hI, hlt⟩ := hrel
    cases gk with
    | zero => exact absurd hlt.out (by omega)
    | succ n =>
      obtain ⟨vw, vh, vb, vt, T, h1⟩ := hR.out
      have H1 := Aside0.mk h1
      have k1 := cell_of_heap h1.cells 1 (.int .i64 r1.used) rfl
      have k8 := cell_of_heap h1.cells 8 (.int .i64 r1.head) rfl
      have b1 := hI.out.used0
      have b2 := hI.out.used
      have b3 := hI.out.wait
      have b4 := hI.out.head0
      have b5 := hI.out.head
      have b6 := hI.out.lines0
      have b7 := hI.out.lines
      have b8 := hI.out.told
      have hmr := cell_frame hF.out (a := ⟨1, 0, none⟩) (fun hc => by have := HS.out _ hc; simp at this) HM.out
      have HMR := Aside0.mk hmr
      clear h1 hR hmr
      have hstep : headF (n + 1) r1 = (match headStep r1 with | .stop st => stopF st r1 | .need => .wait r1 | .next r' => headF n r' | .behind r' => behindF r') := rfl
      have HST := Aside0.mk (hE.out.symm.trans hstep)
      clear hstep
      by_cases hi : crlf r1.wait < 0 ∨ 2048 - r1.head < crlf r1.wait + 2
      · have hs1 : headStep r1 = (if 2048 - r1.head ≤ r1.wait.length then .stop 431 else .need) := by unfold headStep; rw [if_pos hi]
        go_wp2_with fail
        refine (line_no HMR.out H1.out (2048 - r1.head) (by omega) (by omega) b3 hi).mono ?_
        rintro e w1 ⟨rfl, hB⟩
        have H2 := Aside0.mk (H1.out.move hB.size (fun k _ hk => hB.block k hk))
        have HF2 := Aside0.mk (hF.out.trans (Frame.of_below (S := S) hB))
        have HU2 := Aside0.mk (fun k (hk : w1.heap.size ≤ k) => HU.out k (Nat.le_trans HF2.out.size hk))
        by_cases hlong : 2048 - r1.head ≤ r1.wait.length
        · rw [if_pos hlong] at hs1
          have HS1 := Aside0.mk hs1
          have hd : decide (2048 - r1.head ≤ (r1.wait.length : Int)) = true := decide_eq_true hlong
          clear hs1 hB
          go_wp2_with fail
          refine (stop_res ⟨_, _, _, _, _, H2.out⟩ HU2.out 431 rfl b8).mono ?_
          rintro e w6 hres
          have HR6 := Aside0.mk hres
          obtain ⟨bb, rfl⟩ := hres.bool
          clear hres
          go_wp2_with fail
          rw [Exit.noGoto_ret]
          go_ret
          show ResAt w S g (headF (r.wait.length + 1) r) _ w6
          rw [HST.out, HS1.out]
          exact HR6.out.from HF2.out
        · rw [if_neg hlong] at hs1
          have HS1 := Aside0.mk hs1
          have hd : decide (2048 - r1.head ≤ (r1.wait.length : Int)) = false := decide_eq_false hlong
          clear hs1 hB
          go_wp2_with fail
          rw [Exit.noGoto_ret]
          go_ret
          show ResAt w S g (headF (r.wait.length + 1) r) _ w1
          rw [HST.out, HS1.out]
          exact ⟨HF2.out, rfl, _, _, _, _, _, H2.out⟩
      · have hs1 : headStep r1 = (if 1 < r1.lines + 1 ∧ r1.wait.take (crlf r1.wait).toNat = [] then .behind (r1.line (crlf r1.wait).toNat)
          else if 33 < r1.lines + 1 then .stop 431
          else if r1.lines + 1 = 1 then
            match firstF (str (r1.wait.take (crlf r1.wait).toNat)) with
            | none => .stop 400
            | some (a, b, o) => .next { r1.line (crlf r1.wait).toNat with q := { r1.q with f0 := a, f1 := b }, old := o || r1.old }
          else match headerF (str (r1.wait.take (crlf r1.wait).toNat)) with
            | none => .stop 400
            | some p => .next { r1.line (crlf r1.wait).toNat with q := { r1.q with f2 := r1.q.f2 ++ [p] } }) := by unfold headStep; rw [if_neg hi]
        obtain ⟨i, hci⟩ : ∃ i : Nat, crlf r1.wait = i := ⟨(crlf r1.wait).toNat, by omega⟩
        have hcs := crlf_size r1.wait (by omega)
        rw [hci] at hs1 hi hcs
        simp only [Int.toNat_natCast] at hs1
        have HCI := Aside0.mk hci
        have HS1 := Aside0.mk hs1
        clear hs1 hci
        have him : ¬ 2048 - r1.head < (i : Int) + 2 := by omega
        clear hi
        go_wp2_with fail
        refine (line_ok HMR.out H1.out (2048 - r1.head) (by omega) b3 b1 (by omega) i HCI.out (by omega)).mono ?_
        rintro e w2 ⟨l, vw1, rfl, hcut, hlb, h2, hvb, hf2⟩
        have H2 := Aside0.mk h2
        have k1 := cell_of_heap h2.cells 1 (.int .i64 (r1.used + ((i : Int) + 2))) rfl
        have k8 := cell_of_heap h2.cells 8 (.int .i64 r1.head) rfl
        have k9 := cell_of_heap h2.cells 9 (.int .i64 r1.lines) rfl
        have f8 := frozen_of_heap h2.cells 8
        have f9 := frozen_of_heap h2.cells 9
        obtain ⟨Al, cl, rfl, _⟩ := hcut.sl
        have hil : (r1.wait.take i).length = i := by rw [List.length_take]; omega
        rw [hil] at hcut ⊢
        have HC := Aside0.mk hcut
        have HF2 := hF.out.trans (hf2.mono (fun k _ hk => hk ▸ h2.own))
        have X := Aside0.mk (after_line (i := i) h2 HF2 hcut)
        clear h2 hcut hf2 hlb hvb HF2 H2
        by_cases cA : 1 < r1.lines + 1 ∧ r1.wait.take i = []
        · have hi0 : i = 0 := by have := cA.2; rw [this] at hil; simpa using hil.symm
          have hi1 : ((i : Int) == 0) = true := by rw [beq_iff_eq]; omega
          have cA1 := cA.1
          have CA := Aside0.mk cA
          clear cA hil hi0
          go_wp2_with fail
          go_region
          go_wp2_with fail
          revert X
          generalize ((w2.setCell ⟨g, 8, none⟩ (.int .i64 (r1.head + (r1.used + ((i : Int) + 2) - r1.used)))).setCell ⟨g, 9, none⟩ (.int .i64 (r1.lines + 1))).drew = W4
          intro X
          refine (behind_res X.out.2.1 (fun k hk => HU.out k (Nat.le_trans X.out.1.size hk)) HS.out (HG.out.frame X.out.1 HS.out) ?_ b8 ?_ _ rfl).mono ?_
          · have := hI.out.f2; show r1.q.f2.length < _; omega
          · exact fun l hl => vals_size (show ∀ p ∈ r1.q.f2, p.f1.size ≤ 4294967281 from hI.out.vals) hl
          rintro e w6 hres
          have HR6 := Aside0.mk hres
          obtain ⟨bb, rfl⟩ := hres.bool
          clear hres
          go_wp2_with fail
          rw [Exit.noGoto_ret]
          go_ret
          show ResAt w S g (headF (r.wait.length + 1) r) _ w6
          rw [HST.out, HS1.out, if_pos CA.out]
          exact HR6.out.from X.out.1
        have hnA : 1 < r1.lines + 1 → ((i : Int) == 0) = false := by
          intro h1
          rw [beq_eq_false_iff_ne]
          intro h0
          exact cA ⟨h1, by have : i = 0 := by omega
                           subst this; simp⟩
        have CA := Aside0.mk cA
        clear cA
        by_cases cB : 33 < r1.lines + 1
        · have hn2 := hnA (by omega)
          have cB1 : 1 < r1.lines + 1 := by omega
          clear hnA
          go_wp2_with fail
          go_region
          go_wp2_with fail
          revert X
          generalize ((w2.setCell ⟨g, 8, none⟩ (.int .i64 (r1.head + (r1.used + ((i : Int) + 2) - r1.used)))).setCell ⟨g, 9, none⟩ (.int .i64 (r1.lines + 1))).drew = W4
          intro X
          refine (stop_res ⟨_, _, _, _, _, X.out.2.1⟩ (fun k hk => HU.out k (Nat.le_trans X.out.1.size hk)) 431 rfl b8).mono ?_
          rintro e w6 hres
          have HR6 := Aside0.mk hres
          obtain ⟨bb, rfl⟩ := hres.bool
          clear hres
          go_wp2_with fail
          rw [Exit.noGoto_ret]
          go_ret
          show ResAt w S g (headF (r.wait.length + 1) r) _ w6
          rw [HST.out, HS1.out]; rw [if_neg CA.out, if_pos cB]
          exact HR6.out.from X.out.1
        by_cases cC : r1.lines + 1 = 1
        · have CC := Aside0.mk cC
          have cC0 : ¬ 1 < r1.lines + 1 := by omega
          have cC1 : ((r1.lines + 1 : Int) == 1) = true := by rw [beq_iff_eq]; exact cC
          clear hnA cC
          have cv := X.out.2.2.text
          go_wp2_with fail
          go_region
          go_wp2_with fail
          clear cv
          revert X
          generalize ((w2.setCell ⟨g, 8, none⟩ (.int .i64 (r1.head + (r1.used + ((i : Int) + 2) - r1.used)))).setCell ⟨g, 9, none⟩ (.int .i64 (r1.lines + 1))).drew = W4
          intro X
          have HM4 := Aside0.mk (cell_frame X.out.1 (a := ⟨1, 0, none⟩) (fun hc => by have := HS.out _ hc; simp at this) HM.out)
          refine (first_res X.out.2.1 (str (r1.wait.take i)) HM4.out (by rw [str_size]; omega)).mono ?_
          intro e w5 hp
          obtain ⟨hf5, hp⟩ := hp
          have HF5 := Aside0.mk (X.out.1.trans hf5)
          have HIL := Aside0.mk (hI.out.line (by omega) i HCI.out (by omega))
          rcases hp with ⟨hn, rfl, r', hr', ht'⟩ | ⟨a, b, o, hn, rfl, hr⟩
          · have HN := Aside0.mk hn
            have R5 := Aside0.mk (And.intro hr' ht')
            clear hn hr' ht' hf5
            go_wp2_with fail
            refine (stop_res R5.out.1 (fun k hk => HU.out k (Nat.le_trans HF5.out.size hk)) 400 rfl (by rw [R5.out.2]; exact b8)).mono ?_
            rintro e w6 hres
            have HR6 := Aside0.mk hres
            obtain ⟨bb, rfl⟩ := hres.bool
            clear hres
            go_wp2_with fail
            rw [Exit.noGoto_ret]
            go_ret
            show ResAt w S g (headF (r.wait.length + 1) r) _ w6
            rw [HST.out, HS1.out]; rw [if_neg CA.out, if_neg (show ¬ 33 < r1.lines + 1 by omega), if_pos CC.out, HN.out]
            have hq : stopF 400 r' = stopF 400 r1 := by unfold stopF; rw [R5.out.2]; rfl
            have h6 := HR6.out.from HF5.out
            rw [hq] at h6
            exact h6
          · have HN := Aside0.mk hn
            have R5 := Aside0.mk hr
            obtain ⟨_, _, _, _, _, hrr⟩ := hr
            have k95 := cell_of_heap hrr.cells 9 (.int .i64 (r1.lines + 1)) rfl
            clear hn hrr hf5
            go_wp2_with fail
            go_roundg n
            case measure => omega
            case rel =>
              refine ⟨{ r1.line i with q := { r1.q with f0 := a, f1 := b }, old := o || r1.old }, R5, HF5, ⟨?_⟩, ⟨?_⟩, ⟨?_⟩⟩
              · have h0 := HST.out
                rw [HS1.out] at h0
                rw [h0]
                rw [if_neg CA.out, if_neg (show ¬ 33 < r1.lines + 1 by omega), if_pos CC.out, HN.out]
              · exact ⟨HIL.out.used0, HIL.out.used, HIL.out.wait, HIL.out.head0, HIL.out.head, HIL.out.lines0, HIL.out.lines, HIL.out.f2, HIL.out.vals, HIL.out.told⟩
              · have := hlt.out
                simp only [Rd.line, List.length_drop]
                omega
        · have cC1 : 1 < r1.lines + 1 := by omega
          have hn2 := hnA cC1
          have CC := Aside0.mk cC
          clear hnA
          have cv := X.out.2.2.text
          go_wp2_with fail
          go_region
          go_wp2_with fail
          clear cv
          revert X
          generalize ((w2.setCell ⟨g, 8, none⟩ (.int .i64 (r1.head + (r1.used + ((i : Int) + 2) - r1.used)))).setCell ⟨g, 9, none⟩ (.int .i64 (r1.lines + 1))).drew = W4
          intro X
          have HM4 := Aside0.mk (cell_frame X.out.1 (a := ⟨1, 0, none⟩) (fun hc => by have := HS.out _ hc; simp at this) HM.out)
          refine (header_res X.out.2.1 (fun k hk => HU.out k (Nat.le_trans X.out.1.size hk)) (str (r1.wait.take i)) HM4.out (by rw [str_size]; omega) (by have := hI.out.f2; show r1.q.f2.length < _; omega)).mono ?_
          intro e w5 hp
          obtain ⟨hf5, hp⟩ := hp
          have HF5 := Aside0.mk (X.out.1.trans hf5)
          have HIL := Aside0.mk (hI.out.line (by omega) i HCI.out (by omega))
          rcases hp with ⟨hn, rfl, r', hr', ht'⟩ | ⟨p, hn, rfl, hr⟩
          · have HN := Aside0.mk hn
            have R5 := Aside0.mk (And.intro hr' ht')
            clear hn hr' ht' hf5
            go_wp2_with fail
            refine (stop_res R5.out.1 (fun k hk => HU.out k (Nat.le_trans HF5.out.size hk)) 400 rfl (by rw [R5.out.2]; exact b8)).mono ?_
            rintro e w6 hres
            have HR6 := Aside0.mk hres
            obtain ⟨bb, rfl⟩ := hres.bool
            clear hres
            go_wp2_with fail
            rw [Exit.noGoto_ret]
            go_ret
            show ResAt w S g (headF (r.wait.length + 1) r) _ w6
            rw [HST.out, HS1.out]; rw [if_neg CA.out, if_neg (show ¬ 33 < r1.lines + 1 by omega), if_neg CC.out, HN.out]
            have hq : stopF 400 r' = stopF 400 r1 := by unfold stopF; rw [R5.out.2]; rfl
            have h6 := HR6.out.from HF5.out
            rw [hq] at h6
            exact h6
          · have HN := Aside0.mk hn
            have R5 := Aside0.mk hr
            obtain ⟨_, _, _, _, _, hrr⟩ := hr
            have k95 := cell_of_heap hrr.cells 9 (.int .i64 (r1.lines + 1)) rfl
            clear hn hrr hf5
            go_wp2_with fail
            go_roundg n
            case measure => omega
            case rel =>
              refine ⟨{ r1.line i with q := { r1.q with f2 := r1.q.f2 ++ [p] } }, R5, HF5, ⟨?_⟩, ⟨?_⟩, ⟨?_⟩⟩
              · have h0 := HST.out
                rw [HS1.out] at h0
                rw [h0]
                rw [if_neg CA.out, if_neg (show ¬ 33 < r1.lines + 1 by omega), if_neg CC.out, HN.out]
              · refine ⟨HIL.out.used0, HIL.out.used, HIL.out.wait, HIL.out.head0, HIL.out.head, HIL.out.lines0, HIL.out.lines, ?_, ?_, HIL.out.told⟩
                · have := hI.out.f2
                  simp only [Rd.line, List.length_append, List.length_singleton]
                  omega
                · intro q hq
                  rcases List.mem_append.1 hq with hq | hq
                  · exact hI.out.vals q hq
                  · obtain rfl := List.mem_singleton.1 hq
                    exact headerF_size HN.out (by rw [str_size]; omega)
              · have := hlt.out
                simp only [Rd.line, List.length_drop]
                omega
end Go.Proofs.YtafhkpnmolfjeaaGreatDoor.Rq
