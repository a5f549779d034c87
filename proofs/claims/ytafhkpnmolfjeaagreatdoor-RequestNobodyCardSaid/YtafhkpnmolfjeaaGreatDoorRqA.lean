/- Walk of the reader's all. -/
import Derived.Test.YtafhkpnmolfjeaaGreatDoorRq1
set_option linter.unusedVariables false
set_option linter.unusedSimpArgs false
namespace Go.Proofs.YtafhkpnmolfjeaaGreatDoor.Rq
open Go.RowKit Go.Proofs.YtafhkpnmolfjeaaGreatDoorW.PrintWords Go.Proofs.YtafhkpnmolfjeaaGreatDoor.PRequestBack

def vals (l : List S38) (name : ByteArray) : List ByteArray := (l.filter fun p => p.f0.toList == name.toList).map (·.f1)
theorem vals_snoc (l : List S38) (k : Nat) (name : ByteArray) (x : S38) (hx : l[k]? = some x) : vals (l.take (k + 1)) name = vals (l.take k) name ++ (if (x.f0.toList == name.toList) = true then [x.f1] else []) := by
  obtain ⟨hk, rfl⟩ := List.getElem?_eq_some_iff.1 hx
  unfold vals
  rw [List.take_succ_eq_append_getElem hk, List.filter_append, List.map_append]
  congr 1
  by_cases h : (l[k].f0.toList == name.toList) = true
  · rw [if_pos h]; simp [List.filter_cons, h]
  · rw [if_neg h]; simp [List.filter_cons, h]
theorem vals_len (l : List S38) (name : ByteArray) : (vals l name).length ≤ l.length := by
  unfold vals; rw [List.length_map]; exact List.length_filter_le _ _
theorem info9h : (Tryz.prog.info? 9).map (fun i => (i.zero, i.size, i.bytes)) = some (some (.string ⟨#[]⟩), 1, 16) := by kernel_rfl
set_option maxRecDepth 100000 in
set_option maxHeartbeats 800000 in
theorem R_slice' {α : Type} {d : Kd α} {e : Nat} {w : World} {base : Nat} {ok : Nat → Prop} {v : Value} {xs : List α} (h : d.R e w base ok v xs) : ∃ A c, v = .slice A xs.length c := by
  obtain ⟨_, inner, ho, _⟩ := h
  exact own_slice ho
set_option maxRecDepth 100000 in
set_option maxHeartbeats 800000 in
theorem all_calls {w : World} {S : Nat → Prop} {g : Nat} {r : Rd} {vw vh vb vt : Value} {T : Nat → Prop} (h : RdAt w S g r vw vh vb vt T) (name : ByteArray) (hl : r.q.f2.length < 1000000000) :
    Calls Tryz.prog 136 #[.pointer (some ⟨g, 0, none⟩), .string name] w fun e w' => ∃ v, e = .returned v ∧ Kd.R Kd.string 9 w' w.heap.size (fun _ => True) v (vals r.q.f2 name) ∧ Below w.heap.size w w' := by
  obtain ⟨Ah, ch, rfl, hle, hC⟩ := Kd.R_reads h.heads
  have k5 := cell_of_heap h.cells 5 (.slice Ah r.q.f2.length ch) rfl
  have HC := Aside0.mk hC
  clear h hC
  go_enter Tryz.func136, Tryz.ntmps136
  go_wp2_with fail
  go_loopw [5, 14] (fun v i wr => ∃ k : Nat, k ≤ r.q.f2.length ∧ i = .int .i64 k ∧ Aside0 (Kd.R Kd.string 9 wr w.heap.size (fun _ => True) v (vals (r.q.f2.take k) name)) ∧ Aside0 (Below w.heap.size w wr)) (fun _ i _ => r.q.f2.length - (intOf i).toNat)
  case atStart => exact ⟨0, Nat.zero_le _, rfl, ⟨by rw [List.take_zero]; exact Kd.R_nil _ _ _ _ _⟩, ⟨Below.refl _ _⟩⟩
  case round =>
    obtain ⟨k, hk, rfl, hR, hB⟩ := hrel
    by_cases hlt : k < r.q.f2.length
    · obtain ⟨ad, he, hx0, hx1⟩ := at_T38 HC.out (k : Int) (by omega) (by omega)
      subst he
      replace hx0 := pw_cell_below hB.out hx0
      replace hx1 := pw_cell_below hB.out hx1
      have hsn := Aside0.mk (vals_snoc r.q.f2 k name r.q.f2[k] (List.getElem?_eq_getElem hlt))
      have hrd : rd_T38 r.q.f2 (k : Int) = r.q.f2[k] := by simp [rd_T38, List.getD_eq_getElem?_getD, List.getElem?_eq_getElem hlt]
      rw [hrd] at hx0 hx1
      clear hrd
      simp only [Int.toNat_natCast] at hx0 hx1
      revert hx0 hx1 hsn
      generalize r.q.f2[k] = x
      intro hx0 hx1 hsn
      obtain ⟨Av, cv, hv⟩ := R_slice' hR.out
      subst hv
      cases hn : (x.f0.toList == name.toList)
      · have HN := Aside0.mk hn
        go_wp2_with fail
        go_roundw
        case rel =>
          refine ⟨k + 1, by omega, by go_num, ⟨?_⟩, ⟨hB.out.alloc (hB.out.size) _⟩⟩
          rw [hsn.out, if_neg (by rw [HN.out]; decide), List.append_nil]
          exact Kd.R_alloc hR.out _
        case measure => simp [intOf]; omega
      · have HN := Aside0.mk hn
        have hvl := vals_len (r.q.f2.take k) name
        rw [List.length_take] at hvl
        go_wp2_with (at_builtin; go_must (refine Kd.R_append Kd.string (w0 := w) w.heap.size rfl (.tmp 22) (.tmp 25) 33 9 _ 16 rfl Tryz.underlying33 info9h rfl (by decide) (by decide) (.slice Av (vals (List.take k r.q.f2) name).length cv) (vals (List.take k r.q.f2) name) x.f1 [.string x.f1] (fun _ => True) (fun _ => False) rfl (by simp [Act.eval]) rfl (fun _ h => h.elim) (fun _ _ => trivial) (Kd.R_alloc hR.out _) (hB.out.alloc (hB.out.size) _) ?c2 ?c3 ?_))
        case c2 => have := hB.out.size; simp; omega
        case c3 => omega
        intro v1 w1 hR1 hB1 _ _
        have HR1 := Aside0.mk hR1
        have HB1 := Aside0.mk hB1
        clear hR1 hB1
        go_wp2_with fail
        go_roundw
        case rel =>
          refine ⟨k + 1, by omega, by go_num, ⟨?_⟩, HB1⟩
          rw [hsn.out, if_pos HN.out]
          exact HR1.out
        case measure => simp [intOf]; omega
    · go_wp2_with fail
      go_ret
      refine ⟨_, rfl, ?_, hB.out⟩
      have : r.q.f2.take k = r.q.f2 := List.take_of_length_le (by omega)
      rw [this] at hR
      exact hR.out
theorem all_calls2 {w : World} {S : Nat → Prop} {g : Nat} {r : Rd} {vw vh vb vt : Value} {T : Nat → Prop} (h : RdAt w S g r vw vh vb vt T) (name : ByteArray) (l : List S38) (e : r.q.f2 = l) (hl : l.length < 1000000000) :
    Calls Tryz.prog 136 #[.pointer (some ⟨g, 0, none⟩), .string name] w fun e w' => ∃ v, e = .returned v ∧ Kd.R Kd.string 9 w' w.heap.size (fun _ => True) v (vals l name) ∧ Below w.heap.size w w' := by
  subst e
  exact all_calls h name hl
end Go.Proofs.YtafhkpnmolfjeaaGreatDoor.Rq
