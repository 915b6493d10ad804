/- The law's bools: its contract (printed by expand.py). -/
import Derived.Test.YtobpacebpiabcaaGreatDoorPkCg
import Derived.Test.YtobpacebpiabcaaGreatDoorPkLex
namespace Go.Proofs.YtobpacebpiabcaaGreatDoor
open Go.RowKit Go.Lib
theorem take_eq_succ {l m : List Bool} {k : Nat} (hl : k < l.length) (hm : k < m.length) (h : l.take k = m.take k) (he : l.getD k false = m.getD k false) : l.take (k + 1) = m.take (k + 1) := by
  rw [List.take_succ_eq_append_getElem hl, List.take_succ_eq_append_getElem hm, h]
  rw [List.getD_eq_getElem?_getD, List.getD_eq_getElem?_getD, List.getElem?_eq_getElem hl, List.getElem?_eq_getElem hm] at he
  simp at he
  rw [he]
set_option maxHeartbeats 3200000 in
theorem bools_any {u v : Value} {l m : List Bool} {w : World} (hu : BoolV w u l) (hv : BoolV w v m) : Calls Tryz.prog 63 #[u, v] w (RetW (.bool (decide (l = m))) w) := by
  have HU := Lib.hid (fun j (hj : j < l.length) => hu.get hj)
  have HV := Lib.hid (fun j (hj : j < m.length) => hv.get hj)
  obtain ⟨A, c, rfl, hc, hm, -, -⟩ := hu
  obtain ⟨A2, c2, rfl, hc2, hm2, -, -⟩ := hv
  have HNE := Lib.hid (fun h : l.length ≠ m.length => (show decide (l = m) = false from decide_eq_false fun e => h (by rw [e])))
  have HST := Lib.hid (fun k (h1 : k < l.length) (h2 : k < m.length) h3 h4 => take_eq_succ h1 h2 h3 h4)
  have HEQ := Lib.hid (fun (h1 : l.take l.length = m.take l.length) (h2 : l.length = m.length) => (show decide (l = m) = true from decide_eq_true (by rw [List.take_length, h2, List.take_length] at h1; exact h1)))
  have HNO := Lib.hid (fun k (h : l.getD k false ≠ m.getD k false) => (show decide (l = m) = false from decide_eq_false fun e => h (by rw [e])))
  obtain ⟨n, hn⟩ : ∃ n, l.length = n := ⟨_, rfl⟩
  obtain ⟨n2, hn2⟩ : ∃ n, m.length = n := ⟨_, rfl⟩
  rw [hn] at HU hc ⊢
  rw [hn2] at HV hc2 ⊢
  have HN := Lib.hid hn
  have HN2 := Lib.hid hn2
  unfold maxLen at hm hm2
  generalize decide (l = m) = r at *
  clear hn hn2
  by_cases hnn : n = n2
  rotate_left
  · have HR := Lib.hid (HNE.out (by rw [HN.out, HN2.out]; exact hnn))
    have dn : (n != n2) = true := by rw [bne_iff_ne]; exact hnn
    have dn2 : ((n : Int) != (n2 : Int)) = true := by rw [bne_iff_ne]; omega
    clear HU HV HNE HST HEQ HNO
    go_enter Tryz.func63, Tryz.ntmps63
    go_wp2
    go_ret
    exact ⟨by rw [HR.out]; rfl, Below.refl _ _⟩
  subst hnn
  clear HNE
  go_enter Tryz.func63, Tryz.ntmps63
  go_wp2
  go_loopw [5] (fun i wr => ∃ k : Nat, k ≤ n ∧ i = .int .i64 k ∧ l.take k = m.take k ∧ Below w.heap.size w wr) (fun i _ => n - (intOf i).toNat)
  case atStart => exact ⟨0, Nat.zero_le _, rfl, by simp, Below.refl _ _⟩
  case round =>
    obtain ⟨k, hk, rfl, htk, hbw⟩ := hrel
    have HB := Lib.hid hbw
    have HTK := Lib.hid htk
    clear hbw htk
    by_cases hlt : k < n
    · obtain ⟨b1, o1, d1, e1, hl1, hc1⟩ := HU.out k hlt
      obtain ⟨b2, o2, d2, e2, hl2, hc2'⟩ := HV.out k hlt
      injection e1 with e1 _ _
      injection e2 with e2 _ _
      subst e1 e2
      have HC0 := Lib.hid (And.intro ((HB.out.cell (p := ⟨b1, o1 + k, none⟩) hl1).trans (hc1 k hlt)) (Nat.lt_of_lt_of_le hl1 HB.out.size))
      have HC1 := Lib.hid (And.intro ((HB.out.cell (p := ⟨b2, o2 + k, none⟩) hl2).trans (hc2' k hlt)) (Nat.lt_of_lt_of_le hl2 HB.out.size))
      have hst := HST.out k (by rw [HN.out]; exact hlt) (by rw [HN2.out]; exact hlt) HTK.out
      have hno := HNO.out k
      generalize l.getD k false = x at *
      generalize m.getD k false = y at *
      have HS2 := Lib.hid hst
      have HN3 := Lib.hid hno
      clear hst hno hc1 hc2' HU HV HST HEQ HNO
      go_upto_region 6 with fail
      cases x
      all_goals cases y
      · skip
        refine Lex.wp_region_lex (fun w' => Below wr.heap.size wr w') (fun _ => true)
          [(0, true), (1, true), (2, true), (3, true), (4, true), (5, true), (6, true), (7, true), (8, true)]
          (by kernel_rfl) (by kernel_rfl) (by kernel_rfl) (by kernel_rfl) ⟨rfl, rfl, rfl, Nat.le_refl _, fun _ _ => rfl⟩ ?_
        have hb0 : Below wr.heap.size wr wr.drew := ⟨rfl, rfl, rfl, Nat.le_refl _, fun _ _ => rfl⟩
        have hw0 : Below w.heap.size w wr.drew := ⟨HB.out.os, HB.out.tape, HB.out.output, HB.out.size, HB.out.block⟩
        generalize hV0 : wr.drew = V0 at *
        clear hV0
        iterate 9 (refine Lex.lex_take (v := ?_) rfl rfl (by rfl) (fun _ hS => ?_) ?_; rotate_left 1; (focus (have g0 := (hS.cell HC0.out.2).trans HC0.out.1; have g1 := (hS.cell HC1.out.2).trans HC1.out.1; clear hS; go_simp; with_reducible rfl)); simp only [List.setIfInBounds_toArray, List.set_cons_zero, List.set_cons_succ])
        refine Lex.lex_nil ?_
        go_wp2
        first
          | (go_roundw
             case rel => exact ⟨k + 1, by omega, by go_num, HS2.out rfl, hw0⟩
             case measure => simp [intOf]; omega)
          | (have HR := Lib.hid (HN3.out (by decide))
             go_ret
             exact ⟨by rw [HR.out]; rfl, hw0⟩)
      · skip
        refine Lex.wp_region_lex (fun w' => Below wr.heap.size wr w') (fun _ => true)
          [(0, true), (1, true), (2, true), (3, true), (4, true), (5, true), (6, true), (7, true), (8, true)]
          (by kernel_rfl) (by kernel_rfl) (by kernel_rfl) (by kernel_rfl) ⟨rfl, rfl, rfl, Nat.le_refl _, fun _ _ => rfl⟩ ?_
        have hb0 : Below wr.heap.size wr wr.drew := ⟨rfl, rfl, rfl, Nat.le_refl _, fun _ _ => rfl⟩
        have hw0 : Below w.heap.size w wr.drew := ⟨HB.out.os, HB.out.tape, HB.out.output, HB.out.size, HB.out.block⟩
        generalize hV0 : wr.drew = V0 at *
        clear hV0
        iterate 9 (refine Lex.lex_take (v := ?_) rfl rfl (by rfl) (fun _ hS => ?_) ?_; rotate_left 1; (focus (have g0 := (hS.cell HC0.out.2).trans HC0.out.1; have g1 := (hS.cell HC1.out.2).trans HC1.out.1; clear hS; go_simp; with_reducible rfl)); simp only [List.setIfInBounds_toArray, List.set_cons_zero, List.set_cons_succ])
        refine Lex.lex_nil ?_
        go_wp2
        first
          | (go_roundw
             case rel => exact ⟨k + 1, by omega, by go_num, HS2.out rfl, hw0⟩
             case measure => simp [intOf]; omega)
          | (have HR := Lib.hid (HN3.out (by decide))
             go_ret
             exact ⟨by rw [HR.out]; rfl, hw0⟩)
      · skip
        refine Lex.wp_region_lex (fun w' => Below wr.heap.size wr w') (fun _ => true)
          [(0, true), (1, true), (2, true), (3, true), (4, true), (5, true), (6, true), (7, true), (8, true)]
          (by kernel_rfl) (by kernel_rfl) (by kernel_rfl) (by kernel_rfl) ⟨rfl, rfl, rfl, Nat.le_refl _, fun _ _ => rfl⟩ ?_
        have hb0 : Below wr.heap.size wr wr.drew := ⟨rfl, rfl, rfl, Nat.le_refl _, fun _ _ => rfl⟩
        have hw0 : Below w.heap.size w wr.drew := ⟨HB.out.os, HB.out.tape, HB.out.output, HB.out.size, HB.out.block⟩
        generalize hV0 : wr.drew = V0 at *
        clear hV0
        iterate 9 (refine Lex.lex_take (v := ?_) rfl rfl (by rfl) (fun _ hS => ?_) ?_; rotate_left 1; (focus (have g0 := (hS.cell HC0.out.2).trans HC0.out.1; have g1 := (hS.cell HC1.out.2).trans HC1.out.1; clear hS; go_simp; with_reducible rfl)); simp only [List.setIfInBounds_toArray, List.set_cons_zero, List.set_cons_succ])
        refine Lex.lex_nil ?_
        go_wp2
        first
          | (go_roundw
             case rel => exact ⟨k + 1, by omega, by go_num, HS2.out rfl, hw0⟩
             case measure => simp [intOf]; omega)
          | (have HR := Lib.hid (HN3.out (by decide))
             go_ret
             exact ⟨by rw [HR.out]; rfl, hw0⟩)
      · skip
        refine Lex.wp_region_lex (fun w' => Below wr.heap.size wr w') (fun _ => true)
          [(0, true), (1, true), (2, true), (3, true), (4, true), (5, true), (6, true), (7, true), (8, true)]
          (by kernel_rfl) (by kernel_rfl) (by kernel_rfl) (by kernel_rfl) ⟨rfl, rfl, rfl, Nat.le_refl _, fun _ _ => rfl⟩ ?_
        have hb0 : Below wr.heap.size wr wr.drew := ⟨rfl, rfl, rfl, Nat.le_refl _, fun _ _ => rfl⟩
        have hw0 : Below w.heap.size w wr.drew := ⟨HB.out.os, HB.out.tape, HB.out.output, HB.out.size, HB.out.block⟩
        generalize hV0 : wr.drew = V0 at *
        clear hV0
        iterate 9 (refine Lex.lex_take (v := ?_) rfl rfl (by rfl) (fun _ hS => ?_) ?_; rotate_left 1; (focus (have g0 := (hS.cell HC0.out.2).trans HC0.out.1; have g1 := (hS.cell HC1.out.2).trans HC1.out.1; clear hS; go_simp; with_reducible rfl)); simp only [List.setIfInBounds_toArray, List.set_cons_zero, List.set_cons_succ])
        refine Lex.lex_nil ?_
        go_wp2
        first
          | (go_roundw
             case rel => exact ⟨k + 1, by omega, by go_num, HS2.out rfl, hw0⟩
             case measure => simp [intOf]; omega)
          | (have HR := Lib.hid (HN3.out (by decide))
             go_ret
             exact ⟨by rw [HR.out]; rfl, hw0⟩)
    · obtain rfl : n = k := by omega
      have HR := Lib.hid (HEQ.out (by rw [HN.out]; exact HTK.out) (by rw [HN.out, HN2.out]))
      clear HU HV HST HEQ HNO
      go_wp2
      go_ret
      exact ⟨by rw [HR.out]; rfl, HB.out⟩
end Go.Proofs.YtobpacebpiabcaaGreatDoor
