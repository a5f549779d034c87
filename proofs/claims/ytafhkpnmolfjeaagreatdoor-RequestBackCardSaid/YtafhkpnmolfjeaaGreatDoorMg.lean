/- Walk of the law's fed: what lies where behind each piece. · Walk of the law's fed. · The printed Alike at equal lists; what RequestPieces looks at last. -/
import Derived.Test.YtafhkpnmolfjeaaGreatDoorMe
import Derived.Test.YtafhkpnmolfjeaaGreatDoorPRequestBackx4
/-! ## RrA: Walk of the law's fed: what lies where behind each piece. -/
set_option linter.unusedVariables false
set_option linter.unusedSimpArgs false
namespace Go.Proofs.YtafhkpnmolfjeaaGreatDoor.Rq
open Go.RowKit Go.Proofs.YtafhkpnmolfjeaaGreatDoorW.PrintWords Go.Proofs.YtafhkpnmolfjeaaGreatDoor.PRequestBack

/-- Events were told: they lie in v; the reader lies apart from them. -/
structure Held (w0 wr : World) (S : Nat → Prop) (g : Nat) (v : Value) (L : List S53) (s : Option Rd) (T S1 : Nat → Prop) : Prop where
  frame : Frame (fun k => S k ∨ w0.heap.size ≤ k) w0 wr
  row : k53.R 53 wr 0 T v L
  rd : RdS wr S1 g s
  t : ∀ k, T k → (S k ∨ w0.heap.size ≤ k) ∧ k < wr.heap.size ∧ ¬ S1 k
  s1 : ∀ k, S1 k → (S k ∨ w0.heap.size ≤ k) ∧ k < wr.heap.size
theorem Held.start {w : World} {S : Nat → Prop} {g : Nat} {s : Option Rd} (h : RdS w S g s) : Held w w S g (.slice none 0 0) [] s (fun _ => False) (fun k => S k ∧ k < w.heap.size) :=
  ⟨Frame.refl _ _, Kd.R_nil _ _ _ _ _, h.within, fun _ hk => hk.elim, fun k hk => ⟨.inl hk.1, hk.2⟩⟩
/-- Where the reader writes while it is fed. -/
def feedAt (S1 : Nat → Prop) (wa : World) (k : Nat) : Prop := S1 k ∨ wa.heap.size ≤ k
section
variable {w0 wr wa w5 w6 w7 : World} {S : Nat → Prop} {g : Nat} {v vl v1 vb : Value} {L l : List S53} {s s' : Option Rd} {T S1 Tl : Nat → Prop}
theorem Held.rdAt (h : Held w0 wr S g v L s T S1) (ha : Below wr.heap.size wr wa) : RdS wa (feedAt S1 wa) g s :=
  (h.rd.move ha.size (fun k _ hk => ha.block k hk)).grow (fun k hk => .inl hk)
theorem Held.row5 (h : Held w0 wr S g v L s T S1) (ha : Below wr.heap.size wr wa) (hf : Frame (feedAt S1 wa) wa w5) : k53.R 53 w5 0 T v L :=
  Kd.R_step h.row fun k hk hl => (hf.block k (Nat.lt_of_lt_of_le hl ha.size) (fun hc => by
    rcases hc with hc | hc
    · exact (h.t k hk).2.2 hc
    · have := ha.size; omega)).trans (ha.block k hl)
theorem Held.apart (h : Held w0 wr S g v L s T S1) (ha : Below wr.heap.size wr wa) {k : Nat} (hk : T k) (hc : feedAt S1 wa k) : False := by
  rcases hc with hc | hc
  · exact (h.t k hk).2.2 hc
  · have := (h.t k hk).2.1
    have := ha.size; omega
theorem Held.step (h : Held w0 wr S g v L s T S1) (ha : Below wr.heap.size wr wa) (hB : ∀ k, vb.ownBlock = some k → wr.heap.size ≤ k ∧ k < wa.heap.size)
    (hf : Frame (feedAt S1 wa) wa w5) (hTl : ∀ k, Tl k → feedAt S1 wa k ∧ k < w5.heap.size) (hrd : RdS w5 (fun k => feedAt S1 wa k ∧ ¬ Tl k) g s')
    (hR : k53.R 53 w6 0 (fun k => T k ∨ Tl k ∨ w5.heap.size ≤ k) v1 (L ++ l)) (hg : w5.grownBy w6 v.ownBlock) (hx : Frame (fun k => vb.ownBlock = some k) w6 w7) :
    Held w0 w7 S g v1 (L ++ l) s' (fun k => (T k ∨ Tl k ∨ w5.heap.size ≤ k) ∧ k < w6.heap.size) (fun k => (feedAt S1 wa k ∧ ¬ Tl k) ∧ k < w5.heap.size) := by
  have z1 := h.frame.size
  have z2 := ha.size
  have z3 := hf.size
  have z4 := hg.size
  have z5 := hx.size
  have hS1 : ∀ k, feedAt S1 wa k → S k ∨ w0.heap.size ≤ k := fun k hk => by
    rcases hk with hk | hk
    · exact (h.s1 k hk).1
    · exact .inr (by omega)
  have hrow : ∀ k, v.ownBlock = some k → T k := fun k hk => h.row.1 k hk
  refine ⟨?_, ?_, ?_, ?_, ?_⟩
  · refine ((((h.frame.trans (Frame.of_below ha)).trans (hf.mono fun k _ hk => hS1 k hk)).trans (Frame.of_grown hg fun k hk => (h.t k (hrow k hk)).1))).trans (hx.mono fun k _ hk => ?_)
    exact .inr (by have := (hB k hk).1; omega)
  · refine Kd.R_mono (Kd.R_move (Kd.R_bound hR) fun k hk => hx.block k hk.2.2.1 (fun hc => ?_)) fun k hk => ⟨hk.1, hk.2.2.1⟩
    obtain ⟨hk, _, _, _⟩ := hk
    have hb := hB k hc
    rcases hk with hk | hk | hk
    · have := (h.t k hk).2.1; omega
    · rcases (hTl k hk).1 with h1 | h1
      · have := (h.s1 k h1).2; omega
      · omega
    · omega
  · refine hrd.within.move (by omega) fun k hk hl => ?_
    refine (hx.block k (by omega) (fun hc => ?_)).trans (hg.block k hl (fun hc => h.apart ha (hrow k hc.symm) hk.1.1))
    have hb := hB k hc
    rcases hk.1.1 with h1 | h1
    · have := (h.s1 k h1).2; omega
    · omega
  · rintro k ⟨hk, hl⟩
    refine ⟨?_, by omega, ?_⟩
    · rcases hk with hk | hk | hk
      · exact (h.t k hk).1
      · exact hS1 k (hTl k hk).1
      · exact .inr (by omega)
    · rintro ⟨⟨h1, h2⟩, h3⟩
      rcases hk with hk | hk | hk
      · exact h.apart ha hk h1
      · exact h2 hk
      · omega
  · rintro k ⟨⟨h1, h2⟩, h3⟩
    exact ⟨hS1 k h1, by omega⟩
end
/-- The bytes of a piece, in the block of the copy, turned or not. -/
def Turned (w6 w : World) (base : Nat) (v : Value) (n : Nat) : Prop := ∃ zs : List Int, w.ownsRow base 5 1 v n (nums .u8 zs) ∧ Frame (fun k => v.ownBlock = some k) w6 w
theorem Turned.store {w6 w : World} {base g n cap : Nat} (h : Turned w6 w base (.slice (some ⟨g, 0, none⟩) n cap) n) (i x : Int) : Turned w6 (w.setCell ⟨g, i.toNat, none⟩ (.int .u8 x)) base (.slice (some ⟨g, 0, none⟩) n cap) n := by
  obtain ⟨zs, h1, h2⟩ := h
  obtain ⟨a, b⟩ := own_store h1 i x
  exact ⟨_, a, h2.setCell (a := ⟨g, i.toNat, none⟩) rfl _⟩
theorem Turned.cell {w6 w : World} {base g n cap : Nat} (h : Turned w6 w base (.slice (some ⟨g, 0, none⟩) n cap) n) (k : Nat) (hk : k < n) : ∃ z, w.cell? ⟨g, k, none⟩ = some (.int .u8 z) ∧ w.frozen? ⟨g, k, none⟩ = false := by
  obtain ⟨zs, h1, h2⟩ := h
  obtain ⟨a, b⟩ := own_at h1 k (by omega) (by omega)
  exact ⟨_, a, b⟩
theorem take_snoc {α : Type} (l : List α) (k : Nat) (x : α) (h : l[k]? = some x) : l.take (k + 1) = l.take k ++ [x] := by
  obtain ⟨h1, h2⟩ := List.getElem?_eq_some_iff.1 h
  rw [List.take_succ_eq_append_getElem h1, h2]
theorem flatten_take_le {α : Type} (l : List (List α)) (k : Nat) : (l.take k).flatten.length ≤ l.flatten.length := by
  conv => rhs; rw [← List.take_append_drop k l, List.flatten_append, List.length_append]
  omega
/-- The pieces, as they lie. -/
structure Pieces (w : World) (S : Nat → Prop) (p : Nat) (bs : List (List UInt8)) : Prop where
  lt : p < w.heap.size
  out : ¬ S p
  at_ : ∀ (k : Nat) b, bs[k]? = some b → ∃ A c, w.cell? ⟨p, k, none⟩ = some (.slice A b.length c) ∧ (Kd.int .u8).C w A b.length (ints b) ∧ (0 < b.length → ∀ a, A = some a → ¬ S a.block ∧ a.block < w.heap.size)
theorem Pieces.get {w0 wr : World} {S : Nat → Prop} {p : Nat} {bs : List (List UInt8)} (h : Pieces w0 S p bs) (hf : Frame (fun k => S k ∨ w0.heap.size ≤ k) w0 wr) {k : Nat} {b : List UInt8} (hk : bs[k]? = some b) :
    ∃ A c, wr.cell? ⟨p, k, none⟩ = some (.slice A b.length c) ∧ (Kd.int .u8).C wr A b.length (ints b) := by
  obtain ⟨A, c, h1, h2, h3⟩ := h.at_ k b hk
  refine ⟨A, c, cell_frame hf (fun hc => ?_) h1, C_frame hf h2 fun h0 a ha hc => ?_⟩
  · rcases hc with hc | hc
    · exact h.out hc
    · have := h.lt
      have : w0.heap.size ≤ p := hc
      omega
  · obtain ⟨h4, h5⟩ := h3 h0 a ha
    rcases hc with hc | hc
    · exact h4 hc
    · omega
end Go.Proofs.YtafhkpnmolfjeaaGreatDoor.Rq

/-! ## RrB: Walk of the law's fed. -/
set_option linter.unusedVariables false
set_option linter.unusedSimpArgs false
namespace Go.Proofs.YtafhkpnmolfjeaaGreatDoor.Rq
open Go.RowKit Go.Proofs.YtafhkpnmolfjeaaGreatDoorW.PrintWords Go.Proofs.YtafhkpnmolfjeaaGreatDoor.PRequestBack

theorem R_rowsM {α : Type} {d : Kd α} {e : Nat} {w : World} {base : Nat} {ok : Nat → Prop} {v : Value} {xs : List α} (h : d.R e w base ok v xs) : ∃ A c, v = .slice A xs.length c ∧ ReadsRow (d.M w base ok) d.sz w A xs.length xs := by
  obtain ⟨A, c, he, hl, hr⟩ := OwnRow.reads h.2
  exact ⟨A, c, he, hr.imp_ (Below.refl _ _) (fun _ _ hp => d.M_mono (fun k hk => hk.1) hp)⟩
theorem own_of_feed {w0 wo wa : World} {S : Nat → Prop} {g : Nat} {v : Value} {L : List S53} {s : Option Rd} {T S1 : Nat → Prop} (h : Held w0 wo S g v L s T S1) (h9 : 9 ≤ w0.heap.size) (hS : ∀ k, S k → 9 ≤ k) (hG : Glob w0) (ha : Below wo.heap.size wo wa) :
    (∀ k, feedAt S1 wa k → 9 ≤ k) ∧ Glob wa := by
  have hq : ∀ k, (S k ∨ w0.heap.size ≤ k) → 9 ≤ k := fun k hk => by
    rcases hk with hk | hk
    · exact hS k hk
    · omega
  refine ⟨fun k hk => ?_, (hG.frame h.frame hq).below ha⟩
  rcases hk with hk | hk
  · exact hq k (h.s1 k hk).1
  · have := h.frame.size
    have := ha.size
    omega
theorem own_slice_block {w : World} {base : Nat} {n c : Nat} {A : Option Addr} {xs : List Value} (h : w.ownsRow base 5 1 (.slice A n c) n xs) (h0 : 0 < n) : ∀ a, A = some a → base ≤ a.block ∧ a.block < w.heap.size ∧ a = ⟨a.block, 0, none⟩ := by
  obtain ⟨g, cap, he, hb, hl⟩ := h.form h0
  rintro a rfl
  injection he with e1
  injection e1 with e1
  subst e1
  exact ⟨hb, hl, rfl⟩
def HeldS (w0 wr : World) (S : Nat → Prop) (g : Nat) (v : Value) (L : List S53) (s : Option Rd) : Prop := ∃ T S1, Held w0 wr S g v L s T S1
set_option maxRecDepth 100000 in
set_option maxHeartbeats 3200000 in
theorem fed_calls {w : World} {S : Nat → Prop} {g : Nat} {s : Option Rd} {N : Nat} (h : RdS w S g s) (hf : FdS N s) {p : Nat} {bs : List (List UInt8)} {cp : Nat} (hP : Pieces w S p bs) (hS : ∀ k, S k → 9 ≤ k) (h9 : 9 ≤ w.heap.size) (hG : Glob w)
    (hN : N + bs.flatten.length ≤ 100000) (hn : bs.length ≤ 100000) :
    Calls Tryz.prog 22 #[.pointer (some ⟨g, 0, none⟩), .slice (some ⟨p, 0, none⟩) bs.length cp] w fun e w' => ∃ vo, e = .returned vo ∧ HeldS w w' S g vo (feeds s bs).1 (feeds s bs).2 := by
  have H0 := Aside0.mk (Held.start h)
  have HF := Aside0.mk hf
  have HP := Aside0.mk hP
  have HS := Aside0.mk hS
  have HG := Aside0.mk hG
  clear h hf hP hS hG
  go_enter Tryz.func22, Tryz.ntmps22
  go_wp2_with fail
  go_loopw [5, 12] (fun v i wr => ∃ k : Nat, k ≤ bs.length ∧ i = .int .i64 k ∧ Aside0 (HeldS w wr S g v (feeds s (bs.take k)).1 (feeds s (bs.take k)).2)) (fun _ i _ => bs.length - (intOf i).toNat)
  case atStart => exact ⟨0, Nat.zero_le _, rfl, ⟨_, _, H0.out⟩⟩
  case round =>
    obtain ⟨k, hk, rfl, hH⟩ := hrel
    obtain ⟨wo, rfl⟩ : ∃ wo : World, wo = wr := ⟨_, rfl⟩
    by_cases hlt : k < bs.length
    · obtain ⟨b, hb⟩ : ∃ b, bs[k]? = some b := ⟨_, List.getElem?_eq_getElem hlt⟩
      obtain ⟨T, S1, hH⟩ := hH.out
      obtain ⟨A, c, hc, hC⟩ := HP.out.get hH.frame hb
      have hsn := feeds_snoc (bs.take k) s b
      rw [← take_snoc bs k b hb] at hsn
      have hT := flatten_take_le bs k
      have hT1 := flatten_take_le bs (k + 1)
      rw [take_snoc bs k b hb, List.flatten_append, List.length_append] at hT1
      simp only [List.flatten_cons, List.flatten_nil, List.append_nil] at hT1
      have hfk := fdS_feeds (bs.take k) HF.out (by omega)
      have hek := fdS_events (bs.take k) HF.out (M := 100000) (by omega) (by omega)
      have hek1 : (bs.take k).length ≤ 100000 := by rw [List.length_take]; omega
      have hev := FdS.events hfk b (by omega)
      have hEv : ((feeds s (bs.take k)).1.length + (feedS (feeds s (bs.take k)).2 b).1.length) * 88 ≤ 140737488355328 := by
        have : (bs.take k).length * (2 * 100000 + 2) ≤ 100000 * (2 * 100000 + 2) := Nat.mul_le_mul_right _ hek1
        omega
      have SN := Aside0.mk hsn
      have FK := Aside0.mk hfk
      have EV := Aside0.mk hEv
      have HH := Aside0.mk hH
      have CC := Aside0.mk hC
      have bl : b.length ≤ 100000 := by omega
      have NB := Aside0.mk (show (N + (bs.take k).flatten.length) + b.length ≤ 1000000000 by omega)
      clear hsn hfk hek hek1 hev hEv hH hC hT hT1 hb
      go_wp2_with (at_builtin; go_must (refine Kd.R_append_rows (Kd.int .u8) (Rr := (Kd.int .u8).K (wo.alloc (.cells #[] 5))) (w0 := wo) wo.heap.size rfl (.tmp 16) (.tmp 17) 40 5 (.int .u8 0) 1 rfl Tryz.underlying40 info5 rfl (by decide) (by decide) (.slice (some ⟨wo.heap.size, 0, none⟩) 0 0) [] (ints b) A b.length c (fun _ => True) (fun _ => False) (by simp [Act.eval, Act.put]) (by simp [Act.eval, Act.put]) ?c1 ?c2 (fun _ _ h => h) (fun _ h => h.elim) (fun k hk => trivial) ?c3 ?c4 ?c5 ?_))
      case c1 => exact Kd.R_of_own (xs := []) (own_lit wo wo.heap.size 5 .u8 [] (Nat.le_refl _) (by simp)) (fun _ _ => trivial)
      case c2 => exact Kd.C_below CC.out ((Below.refl wo.heap.size wo).alloc (Nat.le_refl _) _)
      case c3 => exact (Below.refl wo.heap.size wo).alloc (Nat.le_refl _) _
      case c4 => simp
      case c5 => simp; omega
      intro vb wa hRb hBa _ _
      have ho := Kd.own_of_R hRb
      obtain ⟨Ab, cb, rfl, _, hCb⟩ := Kd.R_reads hRb
      rw [ints_length] at ho hCb ⊢
      have OB := Aside0.mk ho
      have CB := Aside0.mk hCb
      have HBa := Aside0.mk hBa
      have X := Aside0.mk (own_of_feed HH.out h9 HS.out HG.out hBa)
      clear hRb hBa ho hCb CC
      go_wp2_with fail
      refine (feedS_calls (HH.out.rdAt HBa.out) FK.out CB.out ?_ (fun k hk => .inr hk) X.out.1 X.out.2 NB.out).mono ?_
      · intro h0 a ha
        have h1 := (own_slice_block OB.out h0 a ha).1
        have h2 := HH.out.rd.own.2
        omega
      rintro e w5 ⟨hf5, vo, rfl, hout⟩
      obtain ⟨Tl, hRl, hTl, hrd⟩ := RdS.of_out hout
      obtain ⟨Al, cl, rfl, hrows⟩ := R_rowsM hRl
      have R5 := Aside0.mk (HH.out.row5 HBa.out hf5)
      have F5 := Aside0.mk hf5
      have TL := Aside0.mk hTl
      have RD := Aside0.mk hrd
      have RW := Aside0.mk hrows
      clear hf5 hout hRl hTl hrd hrows
      go_wp2_with (at_builtin; go_must (refine Kd.R_append_rows k53 (Rr := k53.M w5 0 Tl) (w0 := w5) 0 rfl (.tmp 19) (.tmp 22) 44 53 _ 88 rfl Tryz.underlying44 info53 rfl (by decide) (by decide) u5 (feeds s (List.take k bs)).1 (feedS (feeds s (List.take k bs)).2 b).1 Al (feedS (feeds s (List.take k bs)).2 b).1.length cl (fun k => T k ∨ Tl k ∨ w5.heap.size ≤ k) Tl (by simp [Act.eval, Act.put]) (by simp [Act.eval, Act.put]) (Kd.R_mono R5.out (fun k hk => Or.inl hk)) RW.out (fun _ _ h => h) ?d1 (fun k hk => Or.inr (Or.inr hk)) ((Below.refl w5.heap.size w5).mono (Nat.zero_le _)) (Nat.zero_le _) EV.out ?_))
      case d1 => exact fun k hk => ⟨.inr (.inl hk), fun e => HH.out.apart HBa.out (HH.out.row.1 k e.symm) (TL.out k hk).1⟩
      intro v1 w6 hR6 hB6 hg6 hat6
      have R6 := Aside0.mk hR6
      have G6 := Aside0.mk hg6
      clear hR6 hB6 hg6 hat6
      go_wp2_with fail
      have OB6 := Aside0.mk (show Turned w6 w6 wo.heap.size (.slice Ab b.length cb) b.length from ⟨ints b, by
        have hb := fun (h0 : 0 < b.length) a ha => own_slice_block OB.out h0 a ha
        refine own_move OB.out fun k hk => ?_
        have hk2 := own_base OB.out k hk
        have hk3 := own_lt OB.out k hk
        have z3 := F5.out.size
        refine (G6.out.block k (by omega) (fun e => ?_)).trans (F5.out.block k hk3 (fun hc => ?_))
        · have := (HH.out.t k (HH.out.row.1 k e.symm)).2.1
          omega
        · rcases hc with hc | hc
          · have := (HH.out.s1 k hc).2
            omega
          · omega, Frame.refl _ _⟩)
      go_loopw [26] (fun i wr => ∃ j : Nat, j ≤ b.length ∧ i = .int .i64 j ∧ Aside0 (Turned w6 wr wo.heap.size (.slice Ab b.length cb) b.length)) (fun i _ => b.length - (intOf i).toNat)
      case atStart => exact ⟨0, Nat.zero_le _, rfl, OB6⟩
      case round =>
        obtain ⟨j, hj, rfl, hX⟩ := hrel
        by_cases hjl : j < b.length
        · have hfm := hX.out
          obtain ⟨zs, hzo, _⟩ := hX.out
          obtain ⟨gb, cap, he, _, _⟩ := hzo.form (by omega)
          injection he with e1 e2 e3
          subst e1
          obtain ⟨z, hz1, hz2⟩ := hX.out.cell j hjl
          have hst := fun x => Turned.store hX.out (j : Int) x
          simp only [Int.toNat_natCast] at hst
          have ST := Aside0.mk hst
          clear hfm hzo hst e3
          go_wp2_with fail
          go_roundw
          case rel => exact ⟨j + 1, by omega, by go_num, ⟨ST.out _⟩⟩
          case measure => simp [intOf]; omega
        · obtain rfl : j = b.length := by omega
          obtain ⟨zs, hzo, hx7⟩ := hX.out
          have X7 := Aside0.mk hx7
          clear hx7 hzo
          go_wp2_with fail
          go_roundw
          case rel =>
            refine ⟨k + 1, by omega, by go_num, ⟨?_⟩⟩
            rw [SN.out]
            exact ⟨_, _, HH.out.step HBa.out (fun k hk => ⟨own_base OB.out k hk, own_lt OB.out k hk⟩) F5.out TL.out RD.out R6.out G6.out X7.out⟩
          case measure => simp [intOf]; omega
    · obtain rfl : k = bs.length := by omega
      go_wp2_with fail
      go_ret
      have := hH.out
      rw [List.take_of_length_le (Nat.le_refl _)] at this
      exact ⟨_, rfl, this⟩
end Go.Proofs.YtafhkpnmolfjeaaGreatDoor.Rq

/-! ## RrC: The printed Alike at equal lists; what RequestPieces looks at last. -/
set_option linter.unusedVariables false
set_option linter.unusedSimpArgs false
namespace Go.Proofs.YtafhkpnmolfjeaaGreatDoor.Rq
open Go.RowKit Go.Proofs.YtafhkpnmolfjeaaGreatDoorW.PrintWords Go.Proofs.YtafhkpnmolfjeaaGreatDoor.PRequestBack

theorem same_l0 (a0 a1 a3 b0 b1 b3 : ByteArray) (a4 b4 : Bool) (l : List S38) (hl : l.length ≤ 9223372036854775807) : ∀ (d i k : Nat), i + d = l.length → d < k → ingotref23_Same.l0 k (i : Int) a0 a1 l a3 a4 b0 b1 l b3 b4 = some true
  | 0, i, 0, _, h => absurd h (by omega)
  | 0, i, k + 1, h, _ => by
    simp only [ingotref23_Same.l0]
    rw [if_neg (by omega)]
  | d + 1, i, 0, _, h => absurd h (by omega)
  | d + 1, i, k + 1, h, hk => by
    simp only [ingotref23_Same.l0]
    rw [if_pos (by omega), if_pos (by omega), if_pos (by omega)]
    rw [if_neg (by simp)]
    have hw : wrap64 ((i : Int) + 1) = ((i + 1 : Nat) : Int) := by unfold wrap64; omega
    rw [hw]
    exact same_l0 a0 a1 a3 b0 b1 b3 a4 b4 l hl d (i + 1) k (by omega) (by omega)
theorem same_self (e : S53) (hl : e.f0.f2.length ≤ 9223372036854775807) (k : Nat) (hk : e.f0.f2.length + 2 ≤ k) :
    ingotref23_Same.f k e.f0.f0 e.f0.f1 e.f0.f2 e.f0.f3 e.f0.f4 e.f1 e.f0.f0 e.f0.f1 e.f0.f2 e.f0.f3 e.f0.f4 e.f1 = some true := by
  obtain ⟨m, rfl⟩ : ∃ m, k = m + 1 := ⟨k - 1, by omega⟩
  unfold ingotref23_Same.f
  rw [if_pos rfl, if_pos rfl, if_pos rfl, if_pos rfl, if_neg (by simp)]
  simp only [ingotref23_Same.j0]
  rw [if_neg (by simp)]
  exact same_l0 _ _ _ _ _ _ _ _ _ hl e.f0.f2.length 0 m (by omega) (by omega)
theorem alike_l0 (l : List S53) (hl : l.length ≤ 9223372036854775807) (hh : ∀ e ∈ l, e.f0.f2.length ≤ 9223372036854775807) : ∀ (d i k : Nat), i + d = l.length → d + 9223372036854775810 < k → ingotref23_Alike.l0 k l l (i : Int) = some true
  | _, _, 0, _, h => absurd h (by omega)
  | 0, i, k + 1, h, _ => by
    simp only [ingotref23_Alike.l0]
    rw [if_neg (by omega)]
  | d + 1, i, k + 1, h, hk => by
    have hi : i < l.length := by omega
    have hr : rd_T53 l (i : Int) = l[i] := by
      simp [rd_T53, List.getElem?_eq_getElem hi]
    simp only [ingotref23_Alike.l0]
    rw [if_pos (by omega), if_pos (by omega), if_pos (by omega), hr, same_self l[i] (hh _ (List.getElem_mem hi)) k (by have := hh _ (List.getElem_mem hi); omega)]
    simp only [Option.bind_some, if_pos]
    have hw : wrap64 ((i : Int) + 1) = ((i + 1 : Nat) : Int) := by unfold wrap64; omega
    rw [hw]
    exact alike_l0 l hl hh d (i + 1) k (by omega) (by omega)
theorem alike_self (l : List S53) (hl : l.length ≤ 9223372036854775807) (hh : ∀ e ∈ l, e.f0.f2.length ≤ 9223372036854775807) : ∃ k, ingotref23_Alike.f k l l = some true := by
  refine ⟨l.length + 9223372036854775811, ?_⟩
  unfold ingotref23_Alike.f
  rw [if_pos rfl]
  exact alike_l0 l hl hh l.length 0 _ (by omega) (by omega)
theorem C_bounds {w : World} {A : Option Addr} {n : Nat} {l : List S53} (h : Kd.C k53 w A n l) : l.length ≤ 9223372036854775807 ∧ ∀ e ∈ l, e.f0.f2.length ≤ 9223372036854775807 := by
  obtain ⟨h1, h2, h3⟩ := h
  refine ⟨by omega, fun e he => ?_⟩
  obtain ⟨j, hj, hje⟩ := List.getElem_of_mem he
  obtain ⟨ad, _, hr⟩ := h3 (by omega)
  obtain ⟨cs, _, hk, _⟩ := hr j e (by rw [List.getElem?_eq_getElem hj, hje])
  obtain ⟨A2, c2, _, _, hC⟩ := k53_open hk
  exact hC.2.1
theorem alike_calls {w : World} {l : List S53} {A0 A1 : Option Addr} {c0 c1 : Nat} (h0 : Kd.C k53 w A0 l.length l) (hc0 : l.length ≤ c0) (h1 : Kd.C k53 w A1 l.length l) (hc1 : l.length ≤ c1) :
    Calls Tryz.prog 24 #[.slice A0 l.length c0, .slice A1 l.length c1] w fun e w' => e = .returned (.bool true) ∧ Below w.heap.size w w' := by
  obtain ⟨k, hk⟩ := alike_self l (C_bounds h0).1 (C_bounds h0).2
  exact ingotref23_Alike.calls k A0 c0 l A1 c1 l true w h0 hc0 h1 hc1 hk
/-- Behind all: three rows of the same events, three readers in the same state. -/
structure Fin3 (w : World) (g1 g2 g3 : Nat) (v1 v2 v3 : Value) (L : List S53) (s : Option Rd) : Prop where
  r1 : ∃ T, k53.R 53 w 0 T v1 L
  r2 : ∃ T, k53.R 53 w 0 T v2 L
  r3 : ∃ T, k53.R 53 w 0 T v3 L
  d1 : ∃ S, RdS w S g1 s
  d2 : ∃ S, RdS w S g2 s
  d3 : ∃ S, RdS w S g3 s
  glob : Glob w
  big : 9 ≤ w.heap.size
theorem Fin3.below {w w' : World} {g1 g2 g3 : Nat} {v1 v2 v3 : Value} {L : List S53} {s : Option Rd} (h : Fin3 w g1 g2 g3 v1 v2 v3 L s) (hb : Below w.heap.size w w') : Fin3 w' g1 g2 g3 v1 v2 v3 L s := by
  obtain ⟨⟨T1, a1⟩, ⟨T2, a2⟩, ⟨T3, a3⟩, ⟨S1, b1⟩, ⟨S2, b2⟩, ⟨S3, b3⟩, hg, h9⟩ := h
  exact ⟨⟨T1, Kd.R_below a1 hb⟩, ⟨T2, Kd.R_below a2 hb⟩, ⟨T3, Kd.R_below a3 hb⟩, ⟨S1, b1.move hb.size (fun k _ hk => hb.block k hk)⟩, ⟨S2, b2.move hb.size (fun k _ hk => hb.block k hk)⟩, ⟨S3, b3.move hb.size (fun k _ hk => hb.block k hk)⟩, hg.below hb, Nat.le_trans h9 hb.size⟩
/-- What was held stays, where others write. -/
theorem Held.keep {w0 wr w' : World} {S : Nat → Prop} {g : Nat} {v : Value} {L : List S53} {s : Option Rd} {T S1 Z : Nat → Prop} (h : Held w0 wr S g v L s T S1) (hf : Frame Z wr w') (hz : ∀ k, k < wr.heap.size → (S k ∨ w0.heap.size ≤ k) → ¬ Z k) :
    k53.R 53 w' 0 T v L ∧ RdS w' S1 g s :=
  ⟨Kd.R_step h.row fun k hk hl => hf.block k hl (hz k hl (h.t k hk).1), h.rd.move hf.size fun k hk hl => hf.block k hl (hz k hl (h.s1 k hk).1)⟩
end Go.Proofs.YtafhkpnmolfjeaaGreatDoor.Rq
