/- Walk of the reader's readHead. -/
import Derived.Test.YtafhkpnmolfjeaaGreatDoorRqB
import Derived.Test.YtafhkpnmolfjeaaGreatDoorRqF
import Derived.Test.YtafhkpnmolfjeaaGreatDoorRqH
set_option linter.unusedVariables false
set_option linter.unusedSimpArgs false
namespace Go.Proofs.YtafhkpnmolfjeaaGreatDoor.Rq
open Go.RowKit Go.Proofs.YtafhkpnmolfjeaaGreatDoorW.PrintWords Go.Proofs.YtafhkpnmolfjeaaGreatDoor.PRequestBack

def firstF (s : ByteArray) : Option (ByteArray × ByteArray × Bool) :=
  match parts3 s with
  | [a, b, d] => if goodFirst a b && (is10 d || is11 d) then some (a, b, is10 d) else none
  | _ => none
def headerF (s : ByteArray) : Option S38 :=
  if headEarly s then none
  else if ((cutC s).1.map lowB).all okB then some ⟨str ((cutC s).1.map lowB), str (Lib.trimS (cutC s).2.1 [32, 9])⟩ else none
inductive HStep where
  | stop (st : Int)
  | need
  | next (r : Rd)
  | behind (r : Rd)
/-- The reader behind a line of i bytes. -/
def Rd.line (r : Rd) (i : Nat) : Rd := { r with wait := r.wait.drop (i + 2), used := r.used + (i + 2), head := r.head + (i + 2), lines := r.lines + 1 }
def headStep (r : Rd) : HStep :=
  if crlf r.wait < 0 ∨ 2048 - r.head < crlf r.wait + 2 then (if 2048 - r.head ≤ r.wait.length then .stop 431 else .need)
  else
    if 1 < r.lines + 1 ∧ r.wait.take (crlf r.wait).toNat = [] then .behind (r.line (crlf r.wait).toNat)
    else if 33 < r.lines + 1 then .stop 431
    else if r.lines + 1 = 1 then
      match firstF (str (r.wait.take (crlf r.wait).toNat)) with
      | none => .stop 400
      | some (a, b, o) => .next { r.line (crlf r.wait).toNat with q := { r.q with f0 := a, f1 := b }, old := o || r.old }
    else match headerF (str (r.wait.take (crlf r.wait).toNat)) with
      | none => .stop 400
      | some p => .next { r.line (crlf r.wait).toNat with q := { r.q with f2 := r.q.f2 ++ [p] } }
def headF : Nat → Rd → Res
  | 0, r => .wait r
  | n + 1, r => match headStep r with
    | .stop st => stopF st r
    | .need => .wait r
    | .next r' => headF n r'
    | .behind r' => behindF r'
/-- What holds of a reader in its head. -/
structure HInv (r : Rd) : Prop where
  used0 : 0 ≤ r.used
  used : r.used + r.wait.length ≤ 1000000000000000
  wait : r.wait.length < 4294967281
  head0 : 0 ≤ r.head
  head : r.head ≤ 2048
  lines0 : 0 ≤ r.lines
  lines : r.lines ≤ 34
  f2 : r.q.f2.length ≤ r.lines.toNat
  vals : ∀ p ∈ r.q.f2, p.f1.size ≤ 4294967281
  told : r.told.length < 1000000000000
theorem crlf_size (xs : List UInt8) (h : ¬ crlf xs < 0) : crlf xs + 2 ≤ xs.length := by
  rcases crlf_range xs with h1 | h1
  · exact h1.2
  · omega
theorem HInv.line {r : Rd} (h : HInv r) (hl : r.lines ≤ 33) (i : Nat) (hi : crlf r.wait = i) (hm : ¬ 2048 - r.head < (i : Int) + 2) : HInv (r.line i) := by
  have hc := crlf_size r.wait (by omega)
  have h1 := h.used0; have h2 := h.used; have h3 := h.wait; have h4 := h.head0; have h5 := h.head; have h6 := h.lines0; have h7 := h.f2
  refine ⟨?_, ?_, ?_, ?_, ?_, ?_, ?_, ?_, h.vals, h.told⟩ <;> simp only [Rd.line, List.length_drop] <;> omega

theorem after_line {w w2 : World} {S : Nat → Prop} {g : Nat} {r1 : Rd} {vw1 vh vb vt l : Value} {T : Nat → Prop} {i : Nat} (h2 : RdAt w2 S g { r1 with wait := r1.wait.drop (i + 2), used := r1.used + (i + 2) } vw1 vh vb vt T) (hf : Frame S w w2) (hc : Cut5 w2 l (r1.wait.take i)) :
    Frame S w (((w2.setCell ⟨g, 8, none⟩ (.int .i64 (r1.head + (r1.used + ((i : Int) + 2) - r1.used)))).setCell ⟨g, 9, none⟩ (.int .i64 (r1.lines + 1))).drew) ∧ RdAt (((w2.setCell ⟨g, 8, none⟩ (.int .i64 (r1.head + (r1.used + ((i : Int) + 2) - r1.used)))).setCell ⟨g, 9, none⟩ (.int .i64 (r1.lines + 1))).drew) S g (r1.line i) vw1 vh vb vt T ∧ Cut5 (((w2.setCell ⟨g, 8, none⟩ (.int .i64 (r1.head + (r1.used + ((i : Int) + 2) - r1.used)))).setCell ⟨g, 9, none⟩ (.int .i64 (r1.lines + 1))).drew) l (r1.wait.take i) := by
  have hg := ((Chg.start h2.cells).put 8 (.int .i64 (r1.head + (r1.used + ((i : Int) + 2) - r1.used)))).put 9 (.int .i64 (r1.lines + 1))
  have hd := hg.drew
  refine ⟨hf.trans (hd.frame.mono (fun k _ hk => hk ▸ h2.own)), h2.turn ?_ hd.frame.size hd.same h2.wait (fun _ hk => hk) rfl rfl rfl, hc.over hd.frame h2.cells⟩
  rw [hd.heap]
  simp [cellsRd, Rd.line]
  omega
theorem vals_size {l : List S38} {name : ByteArray} (h : ∀ p ∈ l, p.f1.size ≤ 4294967281) {x : ByteArray} (hx : x ∈ vals l name) : x.size ≤ 281474976710656 := by
  obtain ⟨p, hp, rfl⟩ := List.mem_map.1 hx
  have := h p (List.mem_filter.1 hp).1
  omega
theorem headerF_size {s : ByteArray} {p : S38} (h : headerF s = some p) (hs : s.size ≤ 4294967281) : p.f1.size ≤ 4294967281 := by
  unfold headerF at h
  split at h
  · cases h
  · split at h
    · injection h with h
      subst h
      have h1 := (cutC_len s).2
      have h2 : (Lib.trimS (cutC s).2.1 [32, 9]).length ≤ (cutC s).2.1.length := by
        have h3 := (List.dropWhile_sublist ([32, 9].contains · : UInt8 → Bool) (l := Lib.trimRightS (cutC s).2.1 [32, 9])).length_le
        have h4 := (List.dropWhile_sublist ([32, 9].contains · : UInt8 → Bool) (l := (cutC s).2.1.reverse)).length_le
        simp only [List.length_reverse] at h4
        unfold Lib.trimS Lib.trimLeftS
        refine Nat.le_trans h3 ?_
        unfold Lib.trimRightS
        rw [List.length_reverse]
        exact h4
      rw [str_size]
      omega
    · cases h
def FirstPost (w : World) (S : Nat → Prop) (g : Nat) (r : Rd) (s : ByteArray) (e : Ending) (w' : World) : Prop :=
  Frame S w w' ∧ ((firstF s = none ∧ e = .returned (.bool false) ∧ ∃ r', IsRd w' S g r' ∧ r'.told = r.told) ∨
    ∃ a b o, firstF s = some (a, b, o) ∧ e = .returned (.bool true) ∧ IsRd w' S g { r with q := { r.q with f0 := a, f1 := b }, old := o || r.old })
theorem first_res {w : World} {S : Nat → Prop} {g : Nat} {r : Rd} {vw vh vb vt : Value} {T : Nat → Prop} (h : RdAt w S g r vw vh vb vt T) (s : ByteArray) {mx : Int} (hm : w.cell? ⟨1, 0, none⟩ = some (.int .i64 mx)) (hs : s.size < 4294967281) :
    Calls Tryz.prog 105 #[.pointer (some ⟨g, 0, none⟩), .string s] w (FirstPost w S g r s) := by
  have hlen := parts3_len s
  rcases Nat.lt_or_ge (parts3 s).length 3 with h3 | h3
  · refine (first_short _ s w hm hs h3).mono ?_
    rintro e w' ⟨rfl, hB⟩
    refine ⟨Frame.of_below hB, .inl ⟨?_, rfl, r, ⟨vw, vh, vb, vt, T, h.move hB.size (fun k _ hk => hB.block k hk)⟩, rfl⟩⟩
    unfold firstF
    split
    · rename_i hp; rw [hp] at h3; simp at h3
    · rfl
  · obtain ⟨a, b, d, hp⟩ : ∃ a b d, parts3 s = [a, b, d] := by
      match hq : parts3 s, hlen, h3 with
      | [a, b, d], _, _ => exact ⟨a, b, d, rfl⟩
      | [], _, h => simp at h
      | [_], _, h => simp at h
      | [_, _], _, h => simp at h
      | _ :: _ :: _ :: _ :: _, h, _ => simp at h
    cases hg : goodFirst a b
    · refine (first_bad _ s w hm hs a b d hp hg).mono ?_
      rintro e w' ⟨rfl, hB⟩
      refine ⟨Frame.of_below hB, .inl ⟨?_, rfl, r, ⟨vw, vh, vb, vt, T, h.move hB.size (fun k _ hk => hB.block k hk)⟩, rfl⟩⟩
      unfold firstF
      rw [hp]
      simp [hg]
    · refine (first_good h s hm hs a b d hp hg).mono ?_
      rintro e w' ⟨rfl, hf, hr⟩
      refine ⟨hf.mono (fun k _ hk => hk ▸ h.own), ?_⟩
      cases hv : is10 d || is11 d
      · refine .inl ⟨?_, rfl, _, ⟨vw, vh, vb, vt, T, hr⟩, rfl⟩
        unfold firstF
        rw [hp]
        simp [hg, hv]
      · refine .inr ⟨a, b, is10 d, ?_, rfl, ⟨vw, vh, vb, vt, T, hr⟩⟩
        unfold firstF
        rw [hp]
        simp [hg, hv]
def HeadPost (w : World) (S : Nat → Prop) (g : Nat) (r : Rd) (s : ByteArray) (e : Ending) (w' : World) : Prop :=
  Frame S w w' ∧ ((headerF s = none ∧ e = .returned (.bool false) ∧ ∃ r', IsRd w' S g r' ∧ r'.told = r.told) ∨
    ∃ p, headerF s = some p ∧ e = .returned (.bool true) ∧ IsRd w' S g { r with q := { r.q with f2 := r.q.f2 ++ [p] } })
theorem header_res {w : World} {S : Nat → Prop} {g : Nat} {r : Rd} {vw vh vb vt : Value} {T : Nat → Prop} (h : RdAt w S g r vw vh vb vt T) (hU : ∀ k, w.heap.size ≤ k → S k) (s : ByteArray) {mx : Int} (hm : w.cell? ⟨1, 0, none⟩ = some (.int .i64 mx)) (hs : s.size < 4294967281) (hl2 : r.q.f2.length < 1000000000) :
    Calls Tryz.prog 106 #[.pointer (some ⟨g, 0, none⟩), .string s] w (HeadPost w S g r s) := by
  cases he : headEarly s
  · have he' := he
    simp only [headEarly, Bool.or_eq_false_iff, Bool.not_eq_false'] at he'
    obtain ⟨⟨h1, h2⟩, h3⟩ := he'
    refine (header_main h hU s hm hs hl2 (cutC s).1 (cutC s).2.1 (by rw [← h1]) (by intro h0; rw [h0] at h2; simp at h2) h3).mono ?_
    intro e w' hp
    unfold HdPost at hp
    by_cases ha : ((cutC s).1.map lowB).all okB = true
    · rw [if_pos ha] at hp
      obtain ⟨rfl, hf, vh1, T1, hr⟩ := hp
      refine ⟨hf, .inr ⟨_, ?_, rfl, ⟨_, _, _, _, _, hr⟩⟩⟩
      unfold headerF
      rw [he, ha]; simp
    · rw [if_neg ha] at hp
      obtain ⟨rfl, hB⟩ := hp
      refine ⟨Frame.of_below hB, .inl ⟨?_, rfl, r, ⟨vw, vh, vb, vt, T, h.move hB.size (fun k _ hk => hB.block k hk)⟩, rfl⟩⟩
      unfold headerF
      rw [he, if_neg (by decide), if_neg ha]
  · refine (header_early _ s w hm hs he).mono ?_
    rintro e w' ⟨rfl, hB⟩
    refine ⟨Frame.of_below hB, .inl ⟨?_, rfl, r, ⟨vw, vh, vb, vt, T, h.move hB.size (fun k _ hk => hB.block k hk)⟩, rfl⟩⟩
    unfold headerF
    rw [he]; simp

set_option maxRecDepth 100000 in
set_option maxHeartbeats 3200000 in
theorem readHead_res {w : World} {S : Nat → Prop} {g : Nat} {r : Rd} (h : IsRd w S g r) (hI : HInv r) (hU : ∀ k, w.heap.size ≤ k → S k) (hS : ∀ k, S k → 9 ≤ k) (hG : Glob w) :
    Calls Tryz.prog 75 #[.pointer (some ⟨g, 0, none⟩)] w (ResAt w S g (headF (r.wait.length + 1) r)) := by
  have H := Aside0.mk h
  have HG := Aside0.mk hG
  have HU := Aside0.mk hU
  have HS := Aside0.mk hS
  have HI := Aside0.mk hI
  obtain ⟨mx, hmx⟩ := HG.out.maxLen
  have HM := Aside0.mk hmx
  clear h hG hU hS hI hmx
  go_enter Tryz.func75, Tryz.ntmps75
  go_wp2_with fail
  go_step3
  go_wp2_with fail
  go_step3
  go_wp2_with fail
  go_loopg [3] (r.wait.length + 1) (fun kq v3 w' => ∃ r1, Aside0 (IsRd w' S g r1) ∧ Aside0 (Frame S w w') ∧ Aside0 (headF kq r1 = headF (r.wait.length + 1) r) ∧ Aside0 (HInv r1) ∧ Aside0 (r1.wait.length < kq))
  case atStart => exact ⟨r, H, ⟨Frame.refl _ _⟩, ⟨rfl⟩, HI, ⟨by omega⟩⟩
  case round =>
    obtain ⟨r1, hR, hF, hE, hI, hlt⟩ := hrel
    cases gk with
    | zero => exact absurd hlt.out (by omega)
    | succ n =>
      obtain ⟨vw, vh, vb, vt, T, h1⟩ := hR.out
      have H1 := Aside0.mk h1
      have k1 := cell_of_heap h1.cells 1 (.int .i64 r1.used) rfl
      have k8 := cell_of_heap h1.cells 8 (.int .i64 r1.head) rfl
      have b1 := hI.out.used0
      have b2 := hI.out.used
      have b3 := hI.out.wait
      have b4 := hI.out.head0
      have b5 := hI.out.head
      have b6 := hI.out.lines0
      have b7 := hI.out.lines
      have b8 := hI.out.told
      have hmr := cell_frame hF.out (a := ⟨1, 0, none⟩) (fun hc => by have := HS.out _ hc; simp at this) HM.out
      have HMR := Aside0.mk hmr
      clear h1 hR hmr
      have hstep : headF (n + 1) r1 = (match headStep r1 with | .stop st => stopF st r1 | .need => .wait r1 | .next r' => headF n r' | .behind r' => behindF r') := rfl
      have HST := Aside0.mk (hE.out.symm.trans hstep)
      clear hstep
      by_cases hi : crlf r1.wait < 0 ∨ 2048 - r1.head < crlf r1.wait + 2
      · have hs1 : headStep r1 = (if 2048 - r1.head ≤ r1.wait.length then .stop 431 else .need) := by unfold headStep; rw [if_pos hi]
        go_wp2_with fail
        refine (line_no HMR.out H1.out (2048 - r1.head) (by omega) (by omega) b3 hi).mono ?_
        rintro e w1 ⟨rfl, hB⟩
        have H2 := Aside0.mk (H1.out.move hB.size (fun k _ hk => hB.block k hk))
        have HF2 := Aside0.mk (hF.out.trans (Frame.of_below (S := S) hB))
        have HU2 := Aside0.mk (fun k (hk : w1.heap.size ≤ k) => HU.out k (Nat.le_trans HF2.out.size hk))
        by_cases hlong : 2048 - r1.head ≤ r1.wait.length
        · rw [if_pos hlong] at hs1
          have HS1 := Aside0.mk hs1
          have hd : decide (2048 - r1.head ≤ (r1.wait.length : Int)) = true := decide_eq_true hlong
          clear hs1 hB
          go_wp2_with fail
          refine (stop_res ⟨_, _, _, _, _, H2.out⟩ HU2.out 431 rfl b8).mono ?_
          rintro e w6 hres
          have HR6 := Aside0.mk hres
          obtain ⟨bb, rfl⟩ := hres.bool
          clear hres
          go_wp2_with fail
          rw [Exit.noGoto_ret]
          go_ret
          show ResAt w S g (headF (r.wait.length + 1) r) _ w6
          rw [HST.out, HS1.out]
          exact HR6.out.from HF2.out
        · rw [if_neg hlong] at hs1
          have HS1 := Aside0.mk hs1
          have hd : decide (2048 - r1.head ≤ (r1.wait.length : Int)) = false := decide_eq_false hlong
          clear hs1 hB
          go_wp2_with fail
          rw [Exit.noGoto_ret]
          go_ret
          show ResAt w S g (headF (r.wait.length + 1) r) _ w1
          rw [HST.out, HS1.out]
          exact ⟨HF2.out, rfl, _, _, _, _, _, H2.out⟩
      · have hs1 : headStep r1 = (if 1 < r1.lines + 1 ∧ r1.wait.take (crlf r1.wait).toNat = [] then .behind (r1.line (crlf r1.wait).toNat)
          else if 33 < r1.lines + 1 then .stop 431
          else if r1.lines + 1 = 1 then
            match firstF (str (r1.wait.take (crlf r1.wait).toNat)) with
            | none => .stop 400
            | some (a, b, o) => .next { r1.line (crlf r1.wait).toNat with q := { r1.q with f0 := a, f1 := b }, old := o || r1.old }
          else match headerF (str (r1.wait.take (crlf r1.wait).toNat)) with
            | none => .stop 400
            | some p => .next { r1.line (crlf r1.wait).toNat with q := { r1.q with f2 := r1.q.f2 ++ [p] } }) := by unfold headStep; rw [if_neg hi]
        obtain ⟨i, hci⟩ : ∃ i : Nat, crlf r1.wait = i := ⟨(crlf r1.wait).toNat, by omega⟩
        have hcs := crlf_size r1.wait (by omega)
        rw [hci] at hs1 hi hcs
        simp only [Int.toNat_natCast] at hs1
        have HCI := Aside0.mk hci
        have HS1 := Aside0.mk hs1
        clear hs1 hci
        have him : ¬ 2048 - r1.head < (i : Int) + 2 := by omega
        clear hi
        go_wp2_with fail
        refine (line_ok HMR.out H1.out (2048 - r1.head) (by omega) b3 b1 (by omega) i HCI.out (by omega)).mono ?_
        rintro e w2 ⟨l, vw1, rfl, hcut, hlb, h2, hvb, hf2⟩
        have H2 := Aside0.mk h2
        have k1 := cell_of_heap h2.cells 1 (.int .i64 (r1.used + ((i : Int) + 2))) rfl
        have k8 := cell_of_heap h2.cells 8 (.int .i64 r1.head) rfl
        have k9 := cell_of_heap h2.cells 9 (.int .i64 r1.lines) rfl
        have f8 := frozen_of_heap h2.cells 8
        have f9 := frozen_of_heap h2.cells 9
        obtain ⟨Al, cl, rfl, _⟩ := hcut.sl
        have hil : (r1.wait.take i).length = i := by rw [List.length_take]; omega
        rw [hil] at hcut ⊢
        have HC := Aside0.mk hcut
        have HF2 := hF.out.trans (hf2.mono (fun k _ hk => hk ▸ h2.own))
        have X := Aside0.mk (after_line (i := i) h2 HF2 hcut)
        clear h2 hcut hf2 hlb hvb HF2 H2
        by_cases cA : 1 < r1.lines + 1 ∧ r1.wait.take i = []
        · have hi0 : i = 0 := by have := cA.2; rw [this] at hil; simpa using hil.symm
          have hi1 : ((i : Int) == 0) = true := by rw [beq_iff_eq]; omega
          have cA1 := cA.1
          have CA := Aside0.mk cA
          clear cA hil hi0
          go_wp2_with fail
          go_region
          go_wp2_with fail
          revert X
          generalize ((w2.setCell ⟨g, 8, none⟩ (.int .i64 (r1.head + (r1.used + ((i : Int) + 2) - r1.used)))).setCell ⟨g, 9, none⟩ (.int .i64 (r1.lines + 1))).drew = W4
          intro X
          refine (behind_res X.out.2.1 (fun k hk => HU.out k (Nat.le_trans X.out.1.size hk)) HS.out (HG.out.frame X.out.1 HS.out) ?_ b8 ?_ _ rfl).mono ?_
          · have := hI.out.f2; show r1.q.f2.length < _; omega
          · exact fun l hl => vals_size (show ∀ p ∈ r1.q.f2, p.f1.size ≤ 4294967281 from hI.out.vals) hl
          rintro e w6 hres
          have HR6 := Aside0.mk hres
          obtain ⟨bb, rfl⟩ := hres.bool
          clear hres
          go_wp2_with fail
          rw [Exit.noGoto_ret]
          go_ret
          show ResAt w S g (headF (r.wait.length + 1) r) _ w6
          rw [HST.out, HS1.out, if_pos CA.out]
          exact HR6.out.from X.out.1
        have hnA : 1 < r1.lines + 1 → ((i : Int) == 0) = false := by
          intro h1
          rw [beq_eq_false_iff_ne]
          intro h0
          exact cA ⟨h1, by have : i = 0 := by omega
                           subst this; simp⟩
        have CA := Aside0.mk cA
        clear cA
        by_cases cB : 33 < r1.lines + 1
        · have hn2 := hnA (by omega)
          have cB1 : 1 < r1.lines + 1 := by omega
          clear hnA
          go_wp2_with fail
          go_region
          go_wp2_with fail
          revert X
          generalize ((w2.setCell ⟨g, 8, none⟩ (.int .i64 (r1.head + (r1.used + ((i : Int) + 2) - r1.used)))).setCell ⟨g, 9, none⟩ (.int .i64 (r1.lines + 1))).drew = W4
          intro X
          refine (stop_res ⟨_, _, _, _, _, X.out.2.1⟩ (fun k hk => HU.out k (Nat.le_trans X.out.1.size hk)) 431 rfl b8).mono ?_
          rintro e w6 hres
          have HR6 := Aside0.mk hres
          obtain ⟨bb, rfl⟩ := hres.bool
          clear hres
          go_wp2_with fail
          rw [Exit.noGoto_ret]
          go_ret
          show ResAt w S g (headF (r.wait.length + 1) r) _ w6
          rw [HST.out, HS1.out]; rw [if_neg CA.out, if_pos cB]
          exact HR6.out.from X.out.1
        by_cases cC : r1.lines + 1 = 1
        · have CC := Aside0.mk cC
          have cC0 : ¬ 1 < r1.lines + 1 := by omega
          have cC1 : ((r1.lines + 1 : Int) == 1) = true := by rw [beq_iff_eq]; exact cC
          clear hnA cC
          have cv := X.out.2.2.text
          go_wp2_with fail
          go_region
          go_wp2_with fail
          clear cv
          revert X
          generalize ((w2.setCell ⟨g, 8, none⟩ (.int .i64 (r1.head + (r1.used + ((i : Int) + 2) - r1.used)))).setCell ⟨g, 9, none⟩ (.int .i64 (r1.lines + 1))).drew = W4
          intro X
          have HM4 := Aside0.mk (cell_frame X.out.1 (a := ⟨1, 0, none⟩) (fun hc => by have := HS.out _ hc; simp at this) HM.out)
          refine (first_res X.out.2.1 (str (r1.wait.take i)) HM4.out (by rw [str_size]; omega)).mono ?_
          intro e w5 hp
          obtain ⟨hf5, hp⟩ := hp
          have HF5 := Aside0.mk (X.out.1.trans hf5)
          have HIL := Aside0.mk (hI.out.line (by omega) i HCI.out (by omega))
          rcases hp with ⟨hn, rfl, r', hr', ht'⟩ | ⟨a, b, o, hn, rfl, hr⟩
          · have HN := Aside0.mk hn
            have R5 := Aside0.mk (And.intro hr' ht')
            clear hn hr' ht' hf5
            go_wp2_with fail
            refine (stop_res R5.out.1 (fun k hk => HU.out k (Nat.le_trans HF5.out.size hk)) 400 rfl (by rw [R5.out.2]; exact b8)).mono ?_
            rintro e w6 hres
            have HR6 := Aside0.mk hres
            obtain ⟨bb, rfl⟩ := hres.bool
            clear hres
            go_wp2_with fail
            rw [Exit.noGoto_ret]
            go_ret
            show ResAt w S g (headF (r.wait.length + 1) r) _ w6
            rw [HST.out, HS1.out]; rw [if_neg CA.out, if_neg (show ¬ 33 < r1.lines + 1 by omega), if_pos CC.out, HN.out]
            have hq : stopF 400 r' = stopF 400 r1 := by unfold stopF; rw [R5.out.2]; rfl
            have h6 := HR6.out.from HF5.out
            rw [hq] at h6
            exact h6
          · have HN := Aside0.mk hn
            have R5 := Aside0.mk hr
            obtain ⟨_, _, _, _, _, hrr⟩ := hr
            have k95 := cell_of_heap hrr.cells 9 (.int .i64 (r1.lines + 1)) rfl
            clear hn hrr hf5
            go_wp2_with fail
            go_roundg n
            case measure => omega
            case rel =>
              refine ⟨{ r1.line i with q := { r1.q with f0 := a, f1 := b }, old := o || r1.old }, R5, HF5, ⟨?_⟩, ⟨?_⟩, ⟨?_⟩⟩
              · have h0 := HST.out
                rw [HS1.out] at h0
                rw [h0]
                rw [if_neg CA.out, if_neg (show ¬ 33 < r1.lines + 1 by omega), if_pos CC.out, HN.out]
              · exact ⟨HIL.out.used0, HIL.out.used, HIL.out.wait, HIL.out.head0, HIL.out.head, HIL.out.lines0, HIL.out.lines, HIL.out.f2, HIL.out.vals, HIL.out.told⟩
              · have := hlt.out
                simp only [Rd.line, List.length_drop]
                omega
        · have cC1 : 1 < r1.lines + 1 := by omega
          have hn2 := hnA cC1
          have CC := Aside0.mk cC
          clear hnA
          have cv := X.out.2.2.text
          go_wp2_with fail
          go_region
          go_wp2_with fail
          clear cv
          revert X
          generalize ((w2.setCell ⟨g, 8, none⟩ (.int .i64 (r1.head + (r1.used + ((i : Int) + 2) - r1.used)))).setCell ⟨g, 9, none⟩ (.int .i64 (r1.lines + 1))).drew = W4
          intro X
          have HM4 := Aside0.mk (cell_frame X.out.1 (a := ⟨1, 0, none⟩) (fun hc => by have := HS.out _ hc; simp at this) HM.out)
          refine (header_res X.out.2.1 (fun k hk => HU.out k (Nat.le_trans X.out.1.size hk)) (str (r1.wait.take i)) HM4.out (by rw [str_size]; omega) (by have := hI.out.f2; show r1.q.f2.length < _; omega)).mono ?_
          intro e w5 hp
          obtain ⟨hf5, hp⟩ := hp
          have HF5 := Aside0.mk (X.out.1.trans hf5)
          have HIL := Aside0.mk (hI.out.line (by omega) i HCI.out (by omega))
          rcases hp with ⟨hn, rfl, r', hr', ht'⟩ | ⟨p, hn, rfl, hr⟩
          · have HN := Aside0.mk hn
            have R5 := Aside0.mk (And.intro hr' ht')
            clear hn hr' ht' hf5
            go_wp2_with fail
            refine (stop_res R5.out.1 (fun k hk => HU.out k (Nat.le_trans HF5.out.size hk)) 400 rfl (by rw [R5.out.2]; exact b8)).mono ?_
            rintro e w6 hres
            have HR6 := Aside0.mk hres
            obtain ⟨bb, rfl⟩ := hres.bool
            clear hres
            go_wp2_with fail
            rw [Exit.noGoto_ret]
            go_ret
            show ResAt w S g (headF (r.wait.length + 1) r) _ w6
            rw [HST.out, HS1.out]; rw [if_neg CA.out, if_neg (show ¬ 33 < r1.lines + 1 by omega), if_neg CC.out, HN.out]
            have hq : stopF 400 r' = stopF 400 r1 := by unfold stopF; rw [R5.out.2]; rfl
            have h6 := HR6.out.from HF5.out
            rw [hq] at h6
            exact h6
          · have HN := Aside0.mk hn
            have R5 := Aside0.mk hr
            obtain ⟨_, _, _, _, _, hrr⟩ := hr
            have k95 := cell_of_heap hrr.cells 9 (.int .i64 (r1.lines + 1)) rfl
            clear hn hrr hf5
            go_wp2_with fail
            go_roundg n
            case measure => omega
            case rel =>
              refine ⟨{ r1.line i with q := { r1.q with f2 := r1.q.f2 ++ [p] } }, R5, HF5, ⟨?_⟩, ⟨?_⟩, ⟨?_⟩⟩
              · have h0 := HST.out
                rw [HS1.out] at h0
                rw [h0]
                rw [if_neg CA.out, if_neg (show ¬ 33 < r1.lines + 1 by omega), if_neg CC.out, HN.out]
              · refine ⟨HIL.out.used0, HIL.out.used, HIL.out.wait, HIL.out.head0, HIL.out.head, HIL.out.lines0, HIL.out.lines, ?_, ?_, HIL.out.told⟩
                · have := hI.out.f2
                  simp only [Rd.line, List.length_append, List.length_singleton]
                  omega
                · intro q hq
                  rcases List.mem_append.1 hq with hq | hq
                  · exact hI.out.vals q hq
                  · obtain rfl := List.mem_singleton.1 hq
                    exact headerF_size HN.out (by rw [str_size]; omega)
              · have := hlt.out
                simp only [Rd.line, List.length_drop]
                omega
end Go.Proofs.YtafhkpnmolfjeaaGreatDoor.Rq
