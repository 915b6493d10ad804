/- The walk of GearSimplest (printed by gencl.py). -/
import Derived.Test.YtklngjjokbhfpaaPkCj
import Derived.Test.YtklngjjokbhfpaaPkCj
import Derived.Test.YtklngjjokbhfpaaVo
import Derived.Deep.DeepCutAuto
namespace Go.Proofs.Ytklngjjokbhfpaa
open Go.RowKit

theorem i64_of_FOk {p q : Int} (h : FOk (p, q)) : I64 p ∧ I64 q := by
  have h1 : 1 ≤ q := h.1
  have h2 : q ≤ 4611686018427387904 := h.2.1
  have h3 : p.natAbs ≤ 4611686018427387904 := h.2.2.1
  exact ⟨⟨by omega, by omega⟩, ⟨by omega, by omega⟩⟩
theorem valid_w (p q : Int) (b : Bool) (h : decide (FOk (p, q)) = b) {w : World} : ∀ W (_ : Below w.heap.size w W), Calls Try.prog 13 #[.agg #[.int .i64 p, .int .i64 q]] W (RetW (.bool b) W) := fun W _ => by
  subst h
  exact (rvalid_any p q W).mono fun e w' h => RetW.of h
theorem of_w {p q : Int} (h : FOk (p, q)) {w : World} : ∀ W (_ : Below w.heap.size w W), Calls Try.prog 17 #[.agg #[.int .i64 p, .int .i64 q]] W (RetRQ p q 5 W) := fun W _ => of_any' p q W (i64_of_FOk h).1 (i64_of_FOk h).2
theorem cmp_w (p q r s : Int) {w : World} : ∀ W (_ : Below w.heap.size w W) u v, IsRQ W u p q 5 → IsRQ W v r s 5 → Calls Try.prog 16 #[u, v] W (RetW (.int .i64 (sgn (p * s - r * q))) W) := fun W _ u v h1 h2 => (rcmpq_any h1 h2 (by omega) (by omega)).mono fun e w' h => RetW.of h
theorem lives_w {w : World} : ∀ W (_ : Below w.heap.size w W), Calls Try.prog 15 #[] W (RetW (.bool true) W) := fun W _ => (lives_any W).mono fun e w' h => RetW.of h
theorem between_w {p q r s : Int} (hp : I64 p) (hq : I64 q) (hr : I64 r) (hs : I64 s) (x : Value) (h : betwR p q r s = x) {w : World} : ∀ W (_ : Below w.heap.size w W), Calls Try.prog 12 #[.agg #[.int .i64 p, .int .i64 q], .agg #[.int .i64 r, .int .i64 s]] W (RetW x W) := fun W _ => by
  subst h
  exact (between_any p q r s W hp hq hr hs).mono fun e w' h => RetW.of h
theorem sgn_pos {a b : Int} (h : 0 < a - b) : sgn (a - b) = 1 := by unfold sgn; rw [if_neg (by omega), if_neg (by omega)]
theorem sgn_le {a b : Int} (h : a ≤ b) : sgn (a - b) ≤ 0 := by unfold sgn; split <;> (try split) <;> omega

set_option maxRecDepth 100000 in
set_option maxHeartbeats 3200000 in
theorem simplest_a (p q r s a b : Int) (w : World) (i1 : I64 p) (i2 : I64 q) (i3 : I64 r) (i4 : I64 s) (h : ¬ FOk (p, q)) :
    Calls Try.prog 4 #[.agg #[.int .i64 p, .int .i64 q], .agg #[.int .i64 r, .int .i64 s], .agg #[.int .i64 a, .int .i64 b]] w (RetV (.bool true) w) := by
  have cb := between_w i1 i2 i3 i4 (.tuple #[.agg #[.int .i64 0, .int .i64 0], .int .i64 2]) (by unfold betwR; rw [if_pos (fun g => h g.1)]) (w := w)
  have cv1 := valid_w p q false (decide_eq_false h) (w := w)
  clear h i1 i2 i3 i4
  have cl := lives_w (w := w)
  obtain ⟨W3, hW3⟩ : ∃ W3, W3 = (((w.alloc (.cells #[.int .i64 p, .int .i64 q] 23)).alloc (.cells #[.int .i64 r, .int .i64 s] 23)).alloc (.cells #[.int .i64 a, .int .i64 b] 23)) := ⟨_, rfl⟩
  have hB : Below w.heap.size w W3 := by rw [hW3]; exact ((((Below.refl _ _).alloc (Nat.le_refl _) _).alloc (by simp; try omega) _).alloc (by simp; try omega) _)
  have HBW := Lib.hid hB
  have HF0 := Lib.hid (show Two W3 (w.heap.size) (.int .i64 p) (.int .i64 q) 23 by rw [hW3]; exact (((((Two.newAt _ _ _ _ _ (by simp))).alloc _)).alloc _))
  have HG0 := Lib.hid (show Two W3 (w.heap.size + 1) (.int .i64 r) (.int .i64 s) 23 by rw [hW3]; exact (((Two.newAt _ _ _ _ _ (by simp))).alloc _))
  have HH0 := Lib.hid (show Two W3 (w.heap.size + 1 + 1) (.int .i64 a) (.int .i64 b) 23 by rw [hW3]; exact (Two.newAt _ _ _ _ _ (by simp)))
  clear hB
  go_enter Try.func4, Try.ntmps4
  go_upto_region 1 with fail
  rw [← hW3]
  clear hW3
  have k0 := HF0.out.cell0
  have k1 := HF0.out.cell1
  have k2 := HG0.out.cell0
  have k3 := HG0.out.cell1
  have cc := cb W3 HBW.out
  go_wp2_with fail
  refine cc.mono ?_
  rintro e V1 ⟨v1, rfl, hm1, hn1⟩
  subst hm1
  clear cc cb k0 k1 k2 k3
  obtain ⟨YB, hYB⟩ : ∃ YB, YB = V1.heap.size := ⟨_, rfl⟩
  obtain ⟨U, hU⟩ : ∃ U, U = V1.alloc (.cells #[.int .i64 0, .int .i64 0] 23) := ⟨_, rfl⟩
  have hbU : Below W3.heap.size W3 U := by rw [hU]; exact hn1.alloc hn1.size _
  have HF := Lib.hid (HF0.out.below hbU HF0.out.lt)
  have HG := Lib.hid (HG0.out.below hbU HG0.out.lt)
  have HH := Lib.hid (HH0.out.below hbU HH0.out.lt)
  have HY := Lib.hid (show Two U YB (.int .i64 0) (.int .i64 0) 23 by rw [hU, hYB]; exact Two.newAt _ _ _ _ _ rfl)
  have HBU := Lib.hid (HBW.out.trans (hbU.mono HBW.out.size))
  clear hn1 hbU HF0 HG0 HH0 HBW
  go_upto_region 2 with fail
  rw [← hYB, ← hU]
  clear hU hYB
  refine Lex.wp_region_lex (fun w' => Two w' w.heap.size (.int .i64 p) (.int .i64 q) 23 ∧ Two w' (w.heap.size + 1) (.int .i64 r) (.int .i64 s) 23 ∧ Two w' (w.heap.size + 1 + 1) (.int .i64 a) (.int .i64 b) 23 ∧ Two w' YB (.int .i64 0) (.int .i64 0) 23) (fun _ => true)
    [(0, true), (1, false), (2, false), (3, false), (4, false), (5, false), (6, false), (7, false), (8, false), (9, true), (11, true), (10, false), (12, false), (13, false), (14, false), (15, false)]
    (by kernel_rfl) (by kernel_rfl) (by kernel_rfl) (by kernel_rfl) ⟨HF.out, HG.out, HH.out, HY.out⟩ ?_
  have hb0 : Below U.heap.size U U.drew := ⟨rfl, rfl, rfl, Nat.le_refl _, fun _ _ => rfl⟩
  have hw0 : Below w.heap.size w U.drew := ⟨HBU.out.os, HBU.out.tape, HBU.out.output, HBU.out.size, HBU.out.block⟩
  generalize hV0 : U.drew = V0 at *
  clear hV0
  refine Lex.lex_take (v := ?_) rfl rfl (by rfl) (fun _ hS => ?_) ?_; rotate_left 1; (focus (have g0_0 := hS.1.cell0; have g0_1 := hS.1.cell1; have g1_0 := hS.2.1.cell0; have g1_1 := hS.2.1.cell1; have g2_0 := hS.2.2.1.cell0; have g2_1 := hS.2.2.1.cell1; have g3_0 := hS.2.2.2.cell0; have g3_1 := hS.2.2.2.cell1; clear hS; go_simp; with_reducible rfl)); simp only [List.setIfInBounds_toArray, List.set_cons_zero, List.set_cons_succ]
  refine Lex.lex_do rfl ?_
  have cc := cv1 V0 hw0
  go_wp2_with fail
  refine cc.mono ?_
  rintro e V1 ⟨v1, rfl, hm1, hn1⟩
  have hb1 := hb0.trans (hn1.mono hb0.size)
  have hw1 := hw0.trans (hn1.mono hw0.size)
  subst hm1
  clear cc hb0 hw0 hn1
  go_wp2_with fail
  refine Lex.lexQ_normal (fun _ => ⟨HF.out.below hb1 HF.out.lt, HG.out.below hb1 HG.out.lt, HH.out.below hb1 HH.out.lt, HY.out.below hb1 HY.out.lt⟩) ?_
  refine Lex.lex_do rfl ?_
  go_wp2_with fail
  refine Lex.lexQ_normal (fun _ => ⟨HF.out.below hb1 HF.out.lt, HG.out.below hb1 HG.out.lt, HH.out.below hb1 HH.out.lt, HY.out.below hb1 HY.out.lt⟩) ?_
  refine Lex.lex_do rfl ?_
  go_wp2_with fail
  refine Lex.lexQ_normal (fun _ => ⟨HF.out.below hb1 HF.out.lt, HG.out.below hb1 HG.out.lt, HH.out.below hb1 HH.out.lt, HY.out.below hb1 HY.out.lt⟩) ?_
  refine Lex.lex_do rfl ?_
  go_wp2_with fail
  refine Lex.lexQ_normal (fun _ => ⟨HF.out.below hb1 HF.out.lt, HG.out.below hb1 HG.out.lt, HH.out.below hb1 HH.out.lt, HY.out.below hb1 HY.out.lt⟩) ?_
  refine Lex.lex_do rfl ?_
  go_wp2_with fail
  refine Lex.lexQ_normal (fun _ => ⟨HF.out.below hb1 HF.out.lt, HG.out.below hb1 HG.out.lt, HH.out.below hb1 HH.out.lt, HY.out.below hb1 HY.out.lt⟩) ?_
  refine Lex.lex_do rfl ?_
  go_wp2_with fail
  refine Lex.lexQ_normal (fun _ => ⟨HF.out.below hb1 HF.out.lt, HG.out.below hb1 HG.out.lt, HH.out.below hb1 HH.out.lt, HY.out.below hb1 HY.out.lt⟩) ?_
  refine Lex.lex_do rfl ?_
  go_wp2_with fail
  refine Lex.lexQ_normal (fun _ => ⟨HF.out.below hb1 HF.out.lt, HG.out.below hb1 HG.out.lt, HH.out.below hb1 HH.out.lt, HY.out.below hb1 HY.out.lt⟩) ?_
  refine Lex.lex_do rfl ?_
  go_wp2_with fail
  refine Lex.lexQ_normal (fun _ => ⟨HF.out.below hb1 HF.out.lt, HG.out.below hb1 HG.out.lt, HH.out.below hb1 HH.out.lt, HY.out.below hb1 HY.out.lt⟩) ?_
  refine Lex.lex_skip rfl rfl (by rfl) ?_; simp only [List.setIfInBounds_toArray, List.set_cons_zero, List.set_cons_succ]
  refine Lex.lex_skip rfl rfl (by rfl) ?_; simp only [List.setIfInBounds_toArray, List.set_cons_zero, List.set_cons_succ]
  refine Lex.lex_do rfl ?_
  go_wp2_with fail
  refine Lex.lexQ_normal (fun _ => ⟨HF.out.below hb1 HF.out.lt, HG.out.below hb1 HG.out.lt, HH.out.below hb1 HH.out.lt, HY.out.below hb1 HY.out.lt⟩) ?_
  refine Lex.lex_do rfl ?_
  go_wp2_with fail
  refine Lex.lexQ_normal (fun _ => ⟨HF.out.below hb1 HF.out.lt, HG.out.below hb1 HG.out.lt, HH.out.below hb1 HH.out.lt, HY.out.below hb1 HY.out.lt⟩) ?_
  refine Lex.lex_do rfl ?_
  go_wp2_with fail
  refine Lex.lexQ_normal (fun _ => ⟨HF.out.below hb1 HF.out.lt, HG.out.below hb1 HG.out.lt, HH.out.below hb1 HH.out.lt, HY.out.below hb1 HY.out.lt⟩) ?_
  refine Lex.lex_do rfl ?_
  go_wp2_with fail
  refine Lex.lexQ_normal (fun _ => ⟨HF.out.below hb1 HF.out.lt, HG.out.below hb1 HG.out.lt, HH.out.below hb1 HH.out.lt, HY.out.below hb1 HY.out.lt⟩) ?_
  refine Lex.lex_do rfl ?_
  go_wp2_with fail
  refine Lex.lexQ_normal (fun _ => ⟨HF.out.below hb1 HF.out.lt, HG.out.below hb1 HG.out.lt, HH.out.below hb1 HH.out.lt, HY.out.below hb1 HY.out.lt⟩) ?_
  refine Lex.lex_nil ?_
  have HF0 := Lib.hid (HF.out.below hb1 HF.out.lt)
  have HG0 := Lib.hid (HG.out.below hb1 HG.out.lt)
  have HH0 := Lib.hid (HH.out.below hb1 HH.out.lt)
  have HY0 := Lib.hid (HY.out.below hb1 HY.out.lt)
  have HB0 := Lib.hid hw1
  clear hb1 hw1 HF HG HH HY HBU
  have k9 := lives_w _ HB0.out
  go_wp2_with fail
  refine k9.mono ?_
  rintro e VE ⟨vE, rfl, hmE, hnE⟩
  subst hmE
  have HE := Lib.hid (HB0.out.trans (hnE.mono HB0.out.size))
  clear k9 hnE
  go_wp2
  go_ret
  exact ⟨rfl, HE.out⟩

set_option maxRecDepth 100000 in
set_option maxHeartbeats 3200000 in
theorem simplest_b (p q r s a b : Int) (w : World) (i1 : I64 p) (i2 : I64 q) (i3 : I64 r) (i4 : I64 s) (h1 : FOk (p, q)) (h : ¬ FOk (r, s)) :
    Calls Try.prog 4 #[.agg #[.int .i64 p, .int .i64 q], .agg #[.int .i64 r, .int .i64 s], .agg #[.int .i64 a, .int .i64 b]] w (RetV (.bool true) w) := by
  have cb := between_w i1 i2 i3 i4 (.tuple #[.agg #[.int .i64 0, .int .i64 0], .int .i64 2]) (by unfold betwR; rw [if_pos (fun g => h g.2)]) (w := w)
  have cv1 := valid_w p q true (decide_eq_true h1) (w := w)
  have cv2 := valid_w r s false (decide_eq_false h) (w := w)
  clear h h1 i1 i2 i3 i4
  have cl := lives_w (w := w)
  obtain ⟨W3, hW3⟩ : ∃ W3, W3 = (((w.alloc (.cells #[.int .i64 p, .int .i64 q] 23)).alloc (.cells #[.int .i64 r, .int .i64 s] 23)).alloc (.cells #[.int .i64 a, .int .i64 b] 23)) := ⟨_, rfl⟩
  have hB : Below w.heap.size w W3 := by rw [hW3]; exact ((((Below.refl _ _).alloc (Nat.le_refl _) _).alloc (by simp; try omega) _).alloc (by simp; try omega) _)
  have HBW := Lib.hid hB
  have HF0 := Lib.hid (show Two W3 (w.heap.size) (.int .i64 p) (.int .i64 q) 23 by rw [hW3]; exact (((((Two.newAt _ _ _ _ _ (by simp))).alloc _)).alloc _))
  have HG0 := Lib.hid (show Two W3 (w.heap.size + 1) (.int .i64 r) (.int .i64 s) 23 by rw [hW3]; exact (((Two.newAt _ _ _ _ _ (by simp))).alloc _))
  have HH0 := Lib.hid (show Two W3 (w.heap.size + 1 + 1) (.int .i64 a) (.int .i64 b) 23 by rw [hW3]; exact (Two.newAt _ _ _ _ _ (by simp)))
  clear hB
  go_enter Try.func4, Try.ntmps4
  go_upto_region 1 with fail
  rw [← hW3]
  clear hW3
  have k0 := HF0.out.cell0
  have k1 := HF0.out.cell1
  have k2 := HG0.out.cell0
  have k3 := HG0.out.cell1
  have cc := cb W3 HBW.out
  go_wp2_with fail
  refine cc.mono ?_
  rintro e V1 ⟨v1, rfl, hm1, hn1⟩
  subst hm1
  clear cc cb k0 k1 k2 k3
  obtain ⟨YB, hYB⟩ : ∃ YB, YB = V1.heap.size := ⟨_, rfl⟩
  obtain ⟨U, hU⟩ : ∃ U, U = V1.alloc (.cells #[.int .i64 0, .int .i64 0] 23) := ⟨_, rfl⟩
  have hbU : Below W3.heap.size W3 U := by rw [hU]; exact hn1.alloc hn1.size _
  have HF := Lib.hid (HF0.out.below hbU HF0.out.lt)
  have HG := Lib.hid (HG0.out.below hbU HG0.out.lt)
  have HH := Lib.hid (HH0.out.below hbU HH0.out.lt)
  have HY := Lib.hid (show Two U YB (.int .i64 0) (.int .i64 0) 23 by rw [hU, hYB]; exact Two.newAt _ _ _ _ _ rfl)
  have HBU := Lib.hid (HBW.out.trans (hbU.mono HBW.out.size))
  clear hn1 hbU HF0 HG0 HH0 HBW
  go_upto_region 2 with fail
  rw [← hYB, ← hU]
  clear hU hYB
  refine Lex.wp_region_lex (fun w' => Two w' w.heap.size (.int .i64 p) (.int .i64 q) 23 ∧ Two w' (w.heap.size + 1) (.int .i64 r) (.int .i64 s) 23 ∧ Two w' (w.heap.size + 1 + 1) (.int .i64 a) (.int .i64 b) 23 ∧ Two w' YB (.int .i64 0) (.int .i64 0) 23) (fun _ => true)
    [(0, true), (1, false), (2, false), (3, false), (4, true), (5, false), (6, false), (7, false), (8, false), (9, true), (11, true), (10, false), (12, false), (13, false), (14, false), (15, false)]
    (by kernel_rfl) (by kernel_rfl) (by kernel_rfl) (by kernel_rfl) ⟨HF.out, HG.out, HH.out, HY.out⟩ ?_
  have hb0 : Below U.heap.size U U.drew := ⟨rfl, rfl, rfl, Nat.le_refl _, fun _ _ => rfl⟩
  have hw0 : Below w.heap.size w U.drew := ⟨HBU.out.os, HBU.out.tape, HBU.out.output, HBU.out.size, HBU.out.block⟩
  generalize hV0 : U.drew = V0 at *
  clear hV0
  refine Lex.lex_take (v := ?_) rfl rfl (by rfl) (fun _ hS => ?_) ?_; rotate_left 1; (focus (have g0_0 := hS.1.cell0; have g0_1 := hS.1.cell1; have g1_0 := hS.2.1.cell0; have g1_1 := hS.2.1.cell1; have g2_0 := hS.2.2.1.cell0; have g2_1 := hS.2.2.1.cell1; have g3_0 := hS.2.2.2.cell0; have g3_1 := hS.2.2.2.cell1; clear hS; go_simp; with_reducible rfl)); simp only [List.setIfInBounds_toArray, List.set_cons_zero, List.set_cons_succ]
  refine Lex.lex_do rfl ?_
  have cc := cv1 V0 hw0
  go_wp2_with fail
  refine cc.mono ?_
  rintro e V1 ⟨v1, rfl, hm1, hn1⟩
  have hb1 := hb0.trans (hn1.mono hb0.size)
  have hw1 := hw0.trans (hn1.mono hw0.size)
  subst hm1
  clear cc hb0 hw0 hn1
  go_wp2_with fail
  refine Lex.lexQ_normal (fun _ => ⟨HF.out.below hb1 HF.out.lt, HG.out.below hb1 HG.out.lt, HH.out.below hb1 HH.out.lt, HY.out.below hb1 HY.out.lt⟩) ?_
  refine Lex.lex_do rfl ?_
  go_wp2_with fail
  refine Lex.lexQ_normal (fun _ => ⟨HF.out.below hb1 HF.out.lt, HG.out.below hb1 HG.out.lt, HH.out.below hb1 HH.out.lt, HY.out.below hb1 HY.out.lt⟩) ?_
  refine Lex.lex_do rfl ?_
  go_wp2_with fail
  refine Lex.lexQ_normal (fun _ => ⟨HF.out.below hb1 HF.out.lt, HG.out.below hb1 HG.out.lt, HH.out.below hb1 HH.out.lt, HY.out.below hb1 HY.out.lt⟩) ?_
  refine Lex.lex_take (v := ?_) rfl rfl (by rfl) (fun _ hS => ?_) ?_; rotate_left 1; (focus (have g0_0 := hS.1.cell0; have g0_1 := hS.1.cell1; have g1_0 := hS.2.1.cell0; have g1_1 := hS.2.1.cell1; have g2_0 := hS.2.2.1.cell0; have g2_1 := hS.2.2.1.cell1; have g3_0 := hS.2.2.2.cell0; have g3_1 := hS.2.2.2.cell1; clear hS; go_simp; with_reducible rfl)); simp only [List.setIfInBounds_toArray, List.set_cons_zero, List.set_cons_succ]
  refine Lex.lex_do rfl ?_
  have cc := cv2 V1 hw1
  go_wp2_with fail
  refine cc.mono ?_
  rintro e V2 ⟨v2, rfl, hm2, hn2⟩
  have hb2 := hb1.trans (hn2.mono hb1.size)
  have hw2 := hw1.trans (hn2.mono hw1.size)
  subst hm2
  clear cc hb1 hw1 hn2
  go_wp2_with fail
  refine Lex.lexQ_normal (fun _ => ⟨HF.out.below hb2 HF.out.lt, HG.out.below hb2 HG.out.lt, HH.out.below hb2 HH.out.lt, HY.out.below hb2 HY.out.lt⟩) ?_
  refine Lex.lex_do rfl ?_
  go_wp2_with fail
  refine Lex.lexQ_normal (fun _ => ⟨HF.out.below hb2 HF.out.lt, HG.out.below hb2 HG.out.lt, HH.out.below hb2 HH.out.lt, HY.out.below hb2 HY.out.lt⟩) ?_
  refine Lex.lex_do rfl ?_
  go_wp2_with fail
  refine Lex.lexQ_normal (fun _ => ⟨HF.out.below hb2 HF.out.lt, HG.out.below hb2 HG.out.lt, HH.out.below hb2 HH.out.lt, HY.out.below hb2 HY.out.lt⟩) ?_
  refine Lex.lex_do rfl ?_
  go_wp2_with fail
  refine Lex.lexQ_normal (fun _ => ⟨HF.out.below hb2 HF.out.lt, HG.out.below hb2 HG.out.lt, HH.out.below hb2 HH.out.lt, HY.out.below hb2 HY.out.lt⟩) ?_
  refine Lex.lex_skip rfl rfl (by rfl) ?_; simp only [List.setIfInBounds_toArray, List.set_cons_zero, List.set_cons_succ]
  refine Lex.lex_skip rfl rfl (by rfl) ?_; simp only [List.setIfInBounds_toArray, List.set_cons_zero, List.set_cons_succ]
  refine Lex.lex_do rfl ?_
  go_wp2_with fail
  refine Lex.lexQ_normal (fun _ => ⟨HF.out.below hb2 HF.out.lt, HG.out.below hb2 HG.out.lt, HH.out.below hb2 HH.out.lt, HY.out.below hb2 HY.out.lt⟩) ?_
  refine Lex.lex_do rfl ?_
  go_wp2_with fail
  refine Lex.lexQ_normal (fun _ => ⟨HF.out.below hb2 HF.out.lt, HG.out.below hb2 HG.out.lt, HH.out.below hb2 HH.out.lt, HY.out.below hb2 HY.out.lt⟩) ?_
  refine Lex.lex_do rfl ?_
  go_wp2_with fail
  refine Lex.lexQ_normal (fun _ => ⟨HF.out.below hb2 HF.out.lt, HG.out.below hb2 HG.out.lt, HH.out.below hb2 HH.out.lt, HY.out.below hb2 HY.out.lt⟩) ?_
  refine Lex.lex_do rfl ?_
  go_wp2_with fail
  refine Lex.lexQ_normal (fun _ => ⟨HF.out.below hb2 HF.out.lt, HG.out.below hb2 HG.out.lt, HH.out.below hb2 HH.out.lt, HY.out.below hb2 HY.out.lt⟩) ?_
  refine Lex.lex_do rfl ?_
  go_wp2_with fail
  refine Lex.lexQ_normal (fun _ => ⟨HF.out.below hb2 HF.out.lt, HG.out.below hb2 HG.out.lt, HH.out.below hb2 HH.out.lt, HY.out.below hb2 HY.out.lt⟩) ?_
  refine Lex.lex_nil ?_
  have HF0 := Lib.hid (HF.out.below hb2 HF.out.lt)
  have HG0 := Lib.hid (HG.out.below hb2 HG.out.lt)
  have HH0 := Lib.hid (HH.out.below hb2 HH.out.lt)
  have HY0 := Lib.hid (HY.out.below hb2 HY.out.lt)
  have HB0 := Lib.hid hw2
  clear hb2 hw2 HF HG HH HY HBU
  have k9 := lives_w _ HB0.out
  go_wp2_with fail
  refine k9.mono ?_
  rintro e VE ⟨vE, rfl, hmE, hnE⟩
  subst hmE
  have HE := Lib.hid (HB0.out.trans (hnE.mono HB0.out.size))
  clear k9 hnE
  go_wp2
  go_ret
  exact ⟨rfl, HE.out⟩

set_option maxRecDepth 100000 in
set_option maxHeartbeats 3200000 in
theorem simplest_c (p q r s a b : Int) (w : World) (i1 : I64 p) (i2 : I64 q) (i3 : I64 r) (i4 : I64 s) (h1 : FOk (p, q)) (h2 : FOk (r, s)) (h : 0 < p * s - r * q) :
    Calls Try.prog 4 #[.agg #[.int .i64 p, .int .i64 q], .agg #[.int .i64 r, .int .i64 s], .agg #[.int .i64 a, .int .i64 b]] w (RetV (.bool true) w) := by
  have cb := between_w i1 i2 i3 i4 (.tuple #[.agg #[.int .i64 0, .int .i64 0], .int .i64 1]) (by unfold betwR; rw [if_neg (fun g => g ⟨h1, h2⟩), if_pos h]) (w := w)
  have cv1 := valid_w p q true (decide_eq_true h1) (w := w)
  have cv2 := valid_w r s true (decide_eq_true h2) (w := w)
  have coP := of_w h1 (w := w)
  have coR := of_w h2 (w := w)
  have ccPR := cmp_w p q r s (w := w)
  rw [sgn_pos h] at ccPR
  clear h h1 h2 i1 i2 i3 i4
  have cl := lives_w (w := w)
  obtain ⟨W3, hW3⟩ : ∃ W3, W3 = (((w.alloc (.cells #[.int .i64 p, .int .i64 q] 23)).alloc (.cells #[.int .i64 r, .int .i64 s] 23)).alloc (.cells #[.int .i64 a, .int .i64 b] 23)) := ⟨_, rfl⟩
  have hB : Below w.heap.size w W3 := by rw [hW3]; exact ((((Below.refl _ _).alloc (Nat.le_refl _) _).alloc (by simp; try omega) _).alloc (by simp; try omega) _)
  have HBW := Lib.hid hB
  have HF0 := Lib.hid (show Two W3 (w.heap.size) (.int .i64 p) (.int .i64 q) 23 by rw [hW3]; exact (((((Two.newAt _ _ _ _ _ (by simp))).alloc _)).alloc _))
  have HG0 := Lib.hid (show Two W3 (w.heap.size + 1) (.int .i64 r) (.int .i64 s) 23 by rw [hW3]; exact (((Two.newAt _ _ _ _ _ (by simp))).alloc _))
  have HH0 := Lib.hid (show Two W3 (w.heap.size + 1 + 1) (.int .i64 a) (.int .i64 b) 23 by rw [hW3]; exact (Two.newAt _ _ _ _ _ (by simp)))
  clear hB
  go_enter Try.func4, Try.ntmps4
  go_upto_region 1 with fail
  rw [← hW3]
  clear hW3
  have k0 := HF0.out.cell0
  have k1 := HF0.out.cell1
  have k2 := HG0.out.cell0
  have k3 := HG0.out.cell1
  have cc := cb W3 HBW.out
  go_wp2_with fail
  refine cc.mono ?_
  rintro e V1 ⟨v1, rfl, hm1, hn1⟩
  subst hm1
  clear cc cb k0 k1 k2 k3
  obtain ⟨YB, hYB⟩ : ∃ YB, YB = V1.heap.size := ⟨_, rfl⟩
  obtain ⟨U, hU⟩ : ∃ U, U = V1.alloc (.cells #[.int .i64 0, .int .i64 0] 23) := ⟨_, rfl⟩
  have hbU : Below W3.heap.size W3 U := by rw [hU]; exact hn1.alloc hn1.size _
  have HF := Lib.hid (HF0.out.below hbU HF0.out.lt)
  have HG := Lib.hid (HG0.out.below hbU HG0.out.lt)
  have HH := Lib.hid (HH0.out.below hbU HH0.out.lt)
  have HY := Lib.hid (show Two U YB (.int .i64 0) (.int .i64 0) 23 by rw [hU, hYB]; exact Two.newAt _ _ _ _ _ rfl)
  have HBU := Lib.hid (HBW.out.trans (hbU.mono HBW.out.size))
  clear hn1 hbU HF0 HG0 HH0 HBW
  go_upto_region 2 with fail
  rw [← hYB, ← hU]
  clear hU hYB
  refine Lex.wp_region_lex (fun w' => Two w' w.heap.size (.int .i64 p) (.int .i64 q) 23 ∧ Two w' (w.heap.size + 1) (.int .i64 r) (.int .i64 s) 23 ∧ Two w' (w.heap.size + 1 + 1) (.int .i64 a) (.int .i64 b) 23 ∧ Two w' YB (.int .i64 0) (.int .i64 0) 23) (fun _ => true)
    [(0, true), (1, false), (2, false), (3, false), (4, true), (5, false), (6, false), (7, false), (8, false), (9, true), (11, true), (10, false), (12, false), (13, false), (14, false), (15, false)]
    (by kernel_rfl) (by kernel_rfl) (by kernel_rfl) (by kernel_rfl) ⟨HF.out, HG.out, HH.out, HY.out⟩ ?_
  have hb0 : Below U.heap.size U U.drew := ⟨rfl, rfl, rfl, Nat.le_refl _, fun _ _ => rfl⟩
  have hw0 : Below w.heap.size w U.drew := ⟨HBU.out.os, HBU.out.tape, HBU.out.output, HBU.out.size, HBU.out.block⟩
  generalize hV0 : U.drew = V0 at *
  clear hV0
  refine Lex.lex_take (v := ?_) rfl rfl (by rfl) (fun _ hS => ?_) ?_; rotate_left 1; (focus (have g0_0 := hS.1.cell0; have g0_1 := hS.1.cell1; have g1_0 := hS.2.1.cell0; have g1_1 := hS.2.1.cell1; have g2_0 := hS.2.2.1.cell0; have g2_1 := hS.2.2.1.cell1; have g3_0 := hS.2.2.2.cell0; have g3_1 := hS.2.2.2.cell1; clear hS; go_simp; with_reducible rfl)); simp only [List.setIfInBounds_toArray, List.set_cons_zero, List.set_cons_succ]
  refine Lex.lex_do rfl ?_
  have cc := cv1 V0 hw0
  go_wp2_with fail
  refine cc.mono ?_
  rintro e V1 ⟨v1, rfl, hm1, hn1⟩
  have hb1 := hb0.trans (hn1.mono hb0.size)
  have hw1 := hw0.trans (hn1.mono hw0.size)
  subst hm1
  clear cc hb0 hw0 hn1
  go_wp2_with fail
  refine Lex.lexQ_normal (fun _ => ⟨HF.out.below hb1 HF.out.lt, HG.out.below hb1 HG.out.lt, HH.out.below hb1 HH.out.lt, HY.out.below hb1 HY.out.lt⟩) ?_
  refine Lex.lex_do rfl ?_
  go_wp2_with fail
  refine Lex.lexQ_normal (fun _ => ⟨HF.out.below hb1 HF.out.lt, HG.out.below hb1 HG.out.lt, HH.out.below hb1 HH.out.lt, HY.out.below hb1 HY.out.lt⟩) ?_
  refine Lex.lex_do rfl ?_
  go_wp2_with fail
  refine Lex.lexQ_normal (fun _ => ⟨HF.out.below hb1 HF.out.lt, HG.out.below hb1 HG.out.lt, HH.out.below hb1 HH.out.lt, HY.out.below hb1 HY.out.lt⟩) ?_
  refine Lex.lex_take (v := ?_) rfl rfl (by rfl) (fun _ hS => ?_) ?_; rotate_left 1; (focus (have g0_0 := hS.1.cell0; have g0_1 := hS.1.cell1; have g1_0 := hS.2.1.cell0; have g1_1 := hS.2.1.cell1; have g2_0 := hS.2.2.1.cell0; have g2_1 := hS.2.2.1.cell1; have g3_0 := hS.2.2.2.cell0; have g3_1 := hS.2.2.2.cell1; clear hS; go_simp; with_reducible rfl)); simp only [List.setIfInBounds_toArray, List.set_cons_zero, List.set_cons_succ]
  refine Lex.lex_do rfl ?_
  have cc := cv2 V1 hw1
  go_wp2_with fail
  refine cc.mono ?_
  rintro e V2 ⟨v2, rfl, hm2, hn2⟩
  have hb2 := hb1.trans (hn2.mono hb1.size)
  have hw2 := hw1.trans (hn2.mono hw1.size)
  subst hm2
  clear cc hb1 hw1 hn2
  go_wp2_with fail
  refine Lex.lexQ_normal (fun _ => ⟨HF.out.below hb2 HF.out.lt, HG.out.below hb2 HG.out.lt, HH.out.below hb2 HH.out.lt, HY.out.below hb2 HY.out.lt⟩) ?_
  refine Lex.lex_do rfl ?_
  go_wp2_with fail
  refine Lex.lexQ_normal (fun _ => ⟨HF.out.below hb2 HF.out.lt, HG.out.below hb2 HG.out.lt, HH.out.below hb2 HH.out.lt, HY.out.below hb2 HY.out.lt⟩) ?_
  refine Lex.lex_do rfl ?_
  go_wp2_with fail
  refine Lex.lexQ_normal (fun _ => ⟨HF.out.below hb2 HF.out.lt, HG.out.below hb2 HG.out.lt, HH.out.below hb2 HH.out.lt, HY.out.below hb2 HY.out.lt⟩) ?_
  refine Lex.lex_do rfl ?_
  go_wp2_with fail
  refine Lex.lexQ_normal (fun _ => ⟨HF.out.below hb2 HF.out.lt, HG.out.below hb2 HG.out.lt, HH.out.below hb2 HH.out.lt, HY.out.below hb2 HY.out.lt⟩) ?_
  refine Lex.lex_take (v := ?_) rfl rfl (by rfl) (fun _ hS => ?_) ?_; rotate_left 1; (focus (have g0_0 := hS.1.cell0; have g0_1 := hS.1.cell1; have g1_0 := hS.2.1.cell0; have g1_1 := hS.2.1.cell1; have g2_0 := hS.2.2.1.cell0; have g2_1 := hS.2.2.1.cell1; have g3_0 := hS.2.2.2.cell0; have g3_1 := hS.2.2.2.cell1; clear hS; go_simp; with_reducible rfl)); simp only [List.setIfInBounds_toArray, List.set_cons_zero, List.set_cons_succ]
  refine Lex.lex_take (v := ?_) rfl rfl (by rfl) (fun _ hS => ?_) ?_; rotate_left 1; (focus (have g0_0 := hS.1.cell0; have g0_1 := hS.1.cell1; have g1_0 := hS.2.1.cell0; have g1_1 := hS.2.1.cell1; have g2_0 := hS.2.2.1.cell0; have g2_1 := hS.2.2.1.cell1; have g3_0 := hS.2.2.2.cell0; have g3_1 := hS.2.2.2.cell1; clear hS; go_simp; with_reducible rfl)); simp only [List.setIfInBounds_toArray, List.set_cons_zero, List.set_cons_succ]
  refine Lex.lex_do rfl ?_
  have cc := coP V2 hw2
  go_wp2_with fail
  refine cc.mono ?_
  rintro e V3 ⟨v3, rfl, hm3, hn3⟩
  have hb3 := hb2.trans (hn3.mono hb2.size)
  have hw3 := hw2.trans (hn3.mono hw2.size)
  clear cc hb2 hw2 hn3
  go_wp2_with fail
  refine Lex.lexQ_normal (fun _ => ⟨HF.out.below hb3 HF.out.lt, HG.out.below hb3 HG.out.lt, HH.out.below hb3 HH.out.lt, HY.out.below hb3 HY.out.lt⟩) ?_
  refine Lex.lex_do rfl ?_
  have cc := coR V3 hw3
  go_wp2_with fail
  refine cc.mono ?_
  rintro e V4 ⟨v4, rfl, hm4, hn4⟩
  have hb4 := hb3.trans (hn4.mono hb3.size)
  have hw4 := hw3.trans (hn4.mono hw3.size)
  have hm3 := hm3.below hn4
  clear cc hb3 hw3 hn4
  go_wp2_with fail
  refine Lex.lexQ_normal (fun _ => ⟨HF.out.below hb4 HF.out.lt, HG.out.below hb4 HG.out.lt, HH.out.below hb4 HH.out.lt, HY.out.below hb4 HY.out.lt⟩) ?_
  refine Lex.lex_do rfl ?_
  have cc := ccPR V4 hw4 _ _ hm3 hm4
  go_wp2_with fail
  refine cc.mono ?_
  rintro e V5 ⟨v5, rfl, hm5, hn5⟩
  have hb5 := hb4.trans (hn5.mono hb4.size)
  have hw5 := hw4.trans (hn5.mono hw4.size)
  clear hm3 hm4
  subst hm5
  clear cc hb4 hw4 hn5
  go_wp2_with fail
  refine Lex.lexQ_normal (fun _ => ⟨HF.out.below hb5 HF.out.lt, HG.out.below hb5 HG.out.lt, HH.out.below hb5 HH.out.lt, HY.out.below hb5 HY.out.lt⟩) ?_
  refine Lex.lex_do rfl ?_
  go_wp2_with fail
  refine Lex.lexQ_normal (fun _ => ⟨HF.out.below hb5 HF.out.lt, HG.out.below hb5 HG.out.lt, HH.out.below hb5 HH.out.lt, HY.out.below hb5 HY.out.lt⟩) ?_
  refine Lex.lex_do rfl ?_
  go_wp2_with fail
  refine Lex.lexQ_normal (fun _ => ⟨HF.out.below hb5 HF.out.lt, HG.out.below hb5 HG.out.lt, HH.out.below hb5 HH.out.lt, HY.out.below hb5 HY.out.lt⟩) ?_
  refine Lex.lex_nil ?_
  have HF0 := Lib.hid (HF.out.below hb5 HF.out.lt)
  have HG0 := Lib.hid (HG.out.below hb5 HG.out.lt)
  have HH0 := Lib.hid (HH.out.below hb5 HH.out.lt)
  have HY0 := Lib.hid (HY.out.below hb5 HY.out.lt)
  have HB0 := Lib.hid hw5
  clear hb5 hw5 HF HG HH HY HBU
  have k9 := lives_w _ HB0.out
  go_wp2_with fail
  refine k9.mono ?_
  rintro e VE ⟨vE, rfl, hmE, hnE⟩
  subst hmE
  have HE := Lib.hid (HB0.out.trans (hnE.mono HB0.out.size))
  clear k9 hnE
  go_wp2
  go_ret
  exact ⟨rfl, HE.out⟩

set_option maxRecDepth 100000 in
set_option maxHeartbeats 3200000 in
theorem simplest_da (p q r s a b : Int) (w : World) (i1 : I64 p) (i2 : I64 q) (i3 : I64 r) (i4 : I64 s) (h1 : FOk (p, q)) (h2 : FOk (r, s)) (h : ¬ 0 < p * s - r * q) (h3 : ¬ FOk (a, b)) :
    Calls Try.prog 4 #[.agg #[.int .i64 p, .int .i64 q], .agg #[.int .i64 r, .int .i64 s], .agg #[.int .i64 a, .int .i64 b]] w (RetV (.bool true) w) := by
  have hle : ¬ 0 < p * s - r * q := h
  have hb := betwM_ok h1 h2 hle
  obtain ⟨y1, y2, hy⟩ : ∃ y1 y2, betwM p q r s = (y1, y2) := ⟨_, _, rfl⟩
  rw [hy] at hb
  have cb := between_w i1 i2 i3 i4 (.tuple #[.agg #[.int .i64 y1, .int .i64 y2], .int .i64 0]) (by unfold betwR; rw [if_neg (fun g => g ⟨h1, h2⟩), if_neg hle, hy]) (w := w)
  have cv1 := valid_w p q true (decide_eq_true h1) (w := w)
  have cv2 := valid_w r s true (decide_eq_true h2) (w := w)
  have cvY := valid_w y1 y2 true (decide_eq_true hb.ok) (w := w)
  have coP := of_w h1 (w := w)
  have coR := of_w h2 (w := w)
  have coY := of_w hb.ok (w := w)
  have ccPR := cmp_w p q r s (w := w)
  have ccPY := cmp_w p q y1 y2 (w := w)
  have ccYR := cmp_w y1 y2 r s (w := w)
  have e1 := sgn_le (show p * s ≤ r * q by omega)
  have e2 := sgn_le hb.lo
  have e3 := sgn_le hb.hi
  have e4 := hb.ok.2.2.1
  simp only at e4
  generalize sgn (p * s - r * q) = g1 at *
  generalize sgn (p * y2 - y1 * q) = g2 at *
  generalize sgn (y1 * s - r * y2) = g3 at *
  have d1 : decide (0 < g1) = false := decide_eq_false (by omega)
  have d2 : decide (0 < g2) = false := decide_eq_false (by omega)
  have d3 : decide (0 < g3) = false := decide_eq_false (by omega)
  have HLE := Lib.hid hb.least
  clear e1 e2 e3 hb hy hle i1 i2 i3 i4
  have cvX := valid_w a b false (decide_eq_false h3) (w := w)
  clear h h1 h2 h3 HLE
  have cl := lives_w (w := w)
  obtain ⟨W3, hW3⟩ : ∃ W3, W3 = (((w.alloc (.cells #[.int .i64 p, .int .i64 q] 23)).alloc (.cells #[.int .i64 r, .int .i64 s] 23)).alloc (.cells #[.int .i64 a, .int .i64 b] 23)) := ⟨_, rfl⟩
  have hB : Below w.heap.size w W3 := by rw [hW3]; exact ((((Below.refl _ _).alloc (Nat.le_refl _) _).alloc (by simp; try omega) _).alloc (by simp; try omega) _)
  have HBW := Lib.hid hB
  have HF0 := Lib.hid (show Two W3 (w.heap.size) (.int .i64 p) (.int .i64 q) 23 by rw [hW3]; exact (((((Two.newAt _ _ _ _ _ (by simp))).alloc _)).alloc _))
  have HG0 := Lib.hid (show Two W3 (w.heap.size + 1) (.int .i64 r) (.int .i64 s) 23 by rw [hW3]; exact (((Two.newAt _ _ _ _ _ (by simp))).alloc _))
  have HH0 := Lib.hid (show Two W3 (w.heap.size + 1 + 1) (.int .i64 a) (.int .i64 b) 23 by rw [hW3]; exact (Two.newAt _ _ _ _ _ (by simp)))
  clear hB
  go_enter Try.func4, Try.ntmps4
  go_upto_region 1 with fail
  rw [← hW3]
  clear hW3
  have k0 := HF0.out.cell0
  have k1 := HF0.out.cell1
  have k2 := HG0.out.cell0
  have k3 := HG0.out.cell1
  have cc := cb W3 HBW.out
  go_wp2_with fail
  refine cc.mono ?_
  rintro e V1 ⟨v1, rfl, hm1, hn1⟩
  subst hm1
  clear cc cb k0 k1 k2 k3
  obtain ⟨YB, hYB⟩ : ∃ YB, YB = V1.heap.size := ⟨_, rfl⟩
  obtain ⟨U, hU⟩ : ∃ U, U = V1.alloc (.cells #[.int .i64 y1, .int .i64 y2] 23) := ⟨_, rfl⟩
  have hbU : Below W3.heap.size W3 U := by rw [hU]; exact hn1.alloc hn1.size _
  have HF := Lib.hid (HF0.out.below hbU HF0.out.lt)
  have HG := Lib.hid (HG0.out.below hbU HG0.out.lt)
  have HH := Lib.hid (HH0.out.below hbU HH0.out.lt)
  have HY := Lib.hid (show Two U YB (.int .i64 y1) (.int .i64 y2) 23 by rw [hU, hYB]; exact Two.newAt _ _ _ _ _ rfl)
  have HBU := Lib.hid (HBW.out.trans (hbU.mono HBW.out.size))
  clear hn1 hbU HF0 HG0 HH0 HBW
  go_upto_region 2 with fail
  rw [← hYB, ← hU]
  clear hU hYB
  refine Lex.wp_region_lex (fun w' => Two w' w.heap.size (.int .i64 p) (.int .i64 q) 23 ∧ Two w' (w.heap.size + 1) (.int .i64 r) (.int .i64 s) 23 ∧ Two w' (w.heap.size + 1 + 1) (.int .i64 a) (.int .i64 b) 23 ∧ Two w' YB (.int .i64 y1) (.int .i64 y2) 23) (fun _ => true)
    [(0, true), (1, false), (2, false), (3, false), (4, true), (5, false), (6, false), (7, false), (8, false), (9, true), (11, true), (10, false), (12, false), (13, false), (14, false), (15, false)]
    (by kernel_rfl) (by kernel_rfl) (by kernel_rfl) (by kernel_rfl) ⟨HF.out, HG.out, HH.out, HY.out⟩ ?_
  have hb0 : Below U.heap.size U U.drew := ⟨rfl, rfl, rfl, Nat.le_refl _, fun _ _ => rfl⟩
  have hw0 : Below w.heap.size w U.drew := ⟨HBU.out.os, HBU.out.tape, HBU.out.output, HBU.out.size, HBU.out.block⟩
  generalize hV0 : U.drew = V0 at *
  clear hV0
  refine Lex.lex_take (v := ?_) rfl rfl (by rfl) (fun _ hS => ?_) ?_; rotate_left 1; (focus (have g0_0 := hS.1.cell0; have g0_1 := hS.1.cell1; have g1_0 := hS.2.1.cell0; have g1_1 := hS.2.1.cell1; have g2_0 := hS.2.2.1.cell0; have g2_1 := hS.2.2.1.cell1; have g3_0 := hS.2.2.2.cell0; have g3_1 := hS.2.2.2.cell1; clear hS; go_simp; with_reducible rfl)); simp only [List.setIfInBounds_toArray, List.set_cons_zero, List.set_cons_succ]
  refine Lex.lex_do rfl ?_
  have cc := cv1 V0 hw0
  go_wp2_with fail
  refine cc.mono ?_
  rintro e V1 ⟨v1, rfl, hm1, hn1⟩
  have hb1 := hb0.trans (hn1.mono hb0.size)
  have hw1 := hw0.trans (hn1.mono hw0.size)
  subst hm1
  clear cc hb0 hw0 hn1
  go_wp2_with fail
  refine Lex.lexQ_normal (fun _ => ⟨HF.out.below hb1 HF.out.lt, HG.out.below hb1 HG.out.lt, HH.out.below hb1 HH.out.lt, HY.out.below hb1 HY.out.lt⟩) ?_
  refine Lex.lex_do rfl ?_
  go_wp2_with fail
  refine Lex.lexQ_normal (fun _ => ⟨HF.out.below hb1 HF.out.lt, HG.out.below hb1 HG.out.lt, HH.out.below hb1 HH.out.lt, HY.out.below hb1 HY.out.lt⟩) ?_
  refine Lex.lex_do rfl ?_
  go_wp2_with fail
  refine Lex.lexQ_normal (fun _ => ⟨HF.out.below hb1 HF.out.lt, HG.out.below hb1 HG.out.lt, HH.out.below hb1 HH.out.lt, HY.out.below hb1 HY.out.lt⟩) ?_
  refine Lex.lex_take (v := ?_) rfl rfl (by rfl) (fun _ hS => ?_) ?_; rotate_left 1; (focus (have g0_0 := hS.1.cell0; have g0_1 := hS.1.cell1; have g1_0 := hS.2.1.cell0; have g1_1 := hS.2.1.cell1; have g2_0 := hS.2.2.1.cell0; have g2_1 := hS.2.2.1.cell1; have g3_0 := hS.2.2.2.cell0; have g3_1 := hS.2.2.2.cell1; clear hS; go_simp; with_reducible rfl)); simp only [List.setIfInBounds_toArray, List.set_cons_zero, List.set_cons_succ]
  refine Lex.lex_do rfl ?_
  have cc := cv2 V1 hw1
  go_wp2_with fail
  refine cc.mono ?_
  rintro e V2 ⟨v2, rfl, hm2, hn2⟩
  have hb2 := hb1.trans (hn2.mono hb1.size)
  have hw2 := hw1.trans (hn2.mono hw1.size)
  subst hm2
  clear cc hb1 hw1 hn2
  go_wp2_with fail
  refine Lex.lexQ_normal (fun _ => ⟨HF.out.below hb2 HF.out.lt, HG.out.below hb2 HG.out.lt, HH.out.below hb2 HH.out.lt, HY.out.below hb2 HY.out.lt⟩) ?_
  refine Lex.lex_do rfl ?_
  go_wp2_with fail
  refine Lex.lexQ_normal (fun _ => ⟨HF.out.below hb2 HF.out.lt, HG.out.below hb2 HG.out.lt, HH.out.below hb2 HH.out.lt, HY.out.below hb2 HY.out.lt⟩) ?_
  refine Lex.lex_do rfl ?_
  go_wp2_with fail
  refine Lex.lexQ_normal (fun _ => ⟨HF.out.below hb2 HF.out.lt, HG.out.below hb2 HG.out.lt, HH.out.below hb2 HH.out.lt, HY.out.below hb2 HY.out.lt⟩) ?_
  refine Lex.lex_do rfl ?_
  go_wp2_with fail
  refine Lex.lexQ_normal (fun _ => ⟨HF.out.below hb2 HF.out.lt, HG.out.below hb2 HG.out.lt, HH.out.below hb2 HH.out.lt, HY.out.below hb2 HY.out.lt⟩) ?_
  refine Lex.lex_take (v := ?_) rfl rfl (by rfl) (fun _ hS => ?_) ?_; rotate_left 1; (focus (have g0_0 := hS.1.cell0; have g0_1 := hS.1.cell1; have g1_0 := hS.2.1.cell0; have g1_1 := hS.2.1.cell1; have g2_0 := hS.2.2.1.cell0; have g2_1 := hS.2.2.1.cell1; have g3_0 := hS.2.2.2.cell0; have g3_1 := hS.2.2.2.cell1; clear hS; go_simp; with_reducible rfl)); simp only [List.setIfInBounds_toArray, List.set_cons_zero, List.set_cons_succ]
  refine Lex.lex_take (v := ?_) rfl rfl (by rfl) (fun _ hS => ?_) ?_; rotate_left 1; (focus (have g0_0 := hS.1.cell0; have g0_1 := hS.1.cell1; have g1_0 := hS.2.1.cell0; have g1_1 := hS.2.1.cell1; have g2_0 := hS.2.2.1.cell0; have g2_1 := hS.2.2.1.cell1; have g3_0 := hS.2.2.2.cell0; have g3_1 := hS.2.2.2.cell1; clear hS; go_simp; with_reducible rfl)); simp only [List.setIfInBounds_toArray, List.set_cons_zero, List.set_cons_succ]
  refine Lex.lex_do rfl ?_
  have cc := coP V2 hw2
  go_wp2_with fail
  refine cc.mono ?_
  rintro e V3 ⟨v3, rfl, hm3, hn3⟩
  have hb3 := hb2.trans (hn3.mono hb2.size)
  have hw3 := hw2.trans (hn3.mono hw2.size)
  clear cc hb2 hw2 hn3
  go_wp2_with fail
  refine Lex.lexQ_normal (fun _ => ⟨HF.out.below hb3 HF.out.lt, HG.out.below hb3 HG.out.lt, HH.out.below hb3 HH.out.lt, HY.out.below hb3 HY.out.lt⟩) ?_
  refine Lex.lex_do rfl ?_
  have cc := coR V3 hw3
  go_wp2_with fail
  refine cc.mono ?_
  rintro e V4 ⟨v4, rfl, hm4, hn4⟩
  have hb4 := hb3.trans (hn4.mono hb3.size)
  have hw4 := hw3.trans (hn4.mono hw3.size)
  have hm3 := hm3.below hn4
  clear cc hb3 hw3 hn4
  go_wp2_with fail
  refine Lex.lexQ_normal (fun _ => ⟨HF.out.below hb4 HF.out.lt, HG.out.below hb4 HG.out.lt, HH.out.below hb4 HH.out.lt, HY.out.below hb4 HY.out.lt⟩) ?_
  refine Lex.lex_do rfl ?_
  have cc := ccPR V4 hw4 _ _ hm3 hm4
  go_wp2_with fail
  refine cc.mono ?_
  rintro e V5 ⟨v5, rfl, hm5, hn5⟩
  have hb5 := hb4.trans (hn5.mono hb4.size)
  have hw5 := hw4.trans (hn5.mono hw4.size)
  clear hm3 hm4
  subst hm5
  clear cc hb4 hw4 hn5
  go_wp2_with fail
  refine Lex.lexQ_normal (fun _ => ⟨HF.out.below hb5 HF.out.lt, HG.out.below hb5 HG.out.lt, HH.out.below hb5 HH.out.lt, HY.out.below hb5 HY.out.lt⟩) ?_
  refine Lex.lex_do rfl ?_
  go_wp2_with fail
  refine Lex.lexQ_normal (fun _ => ⟨HF.out.below hb5 HF.out.lt, HG.out.below hb5 HG.out.lt, HH.out.below hb5 HH.out.lt, HY.out.below hb5 HY.out.lt⟩) ?_
  refine Lex.lex_do rfl ?_
  go_wp2_with fail
  refine Lex.lexQ_normal (fun _ => ⟨HF.out.below hb5 HF.out.lt, HG.out.below hb5 HG.out.lt, HH.out.below hb5 HH.out.lt, HY.out.below hb5 HY.out.lt⟩) ?_
  refine Lex.lex_nil ?_
  have HF0 := Lib.hid (HF.out.below hb5 HF.out.lt)
  have HG0 := Lib.hid (HG.out.below hb5 HG.out.lt)
  have HH0 := Lib.hid (HH.out.below hb5 HH.out.lt)
  have HY0 := Lib.hid (HY.out.below hb5 HY.out.lt)
  have HB0 := Lib.hid hw5
  clear hb5 hw5 HF HG HH HY HBU
  go_upto_region 4 with fail
  refine Lex.wp_region_lex (fun w' => Two w' w.heap.size (.int .i64 p) (.int .i64 q) 23 ∧ Two w' (w.heap.size + 1) (.int .i64 r) (.int .i64 s) 23 ∧ Two w' (w.heap.size + 1 + 1) (.int .i64 a) (.int .i64 b) 23 ∧ Two w' YB (.int .i64 y1) (.int .i64 y2) 23) (fun _ => true)
    [(0, false), (1, false), (2, false), (3, true), (4, false), (5, false), (6, false), (7, false), (8, true), (10, true), (9, false), (11, false), (12, false), (13, false), (14, false), (15, false), (16, true), (18, true), (17, false), (19, false), (20, false), (21, false), (22, false), (23, false), (24, false), (25, false), (26, false)]
    (by kernel_rfl) (by kernel_rfl) (by kernel_rfl) (by kernel_rfl) ⟨HF0.out, HG0.out, HH0.out, HY0.out⟩ ?_
  have hb6 : Below V5.heap.size V5 V5.drew := ⟨rfl, rfl, rfl, Nat.le_refl _, fun _ _ => rfl⟩
  have hw6 : Below w.heap.size w V5.drew := ⟨HB0.out.os, HB0.out.tape, HB0.out.output, HB0.out.size, HB0.out.block⟩
  generalize hV0 : V5.drew = V6 at *
  clear hV0
  refine Lex.lex_do rfl ?_
  go_wp2_with fail
  refine Lex.lexQ_normal (fun _ => ⟨HF0.out.below hb6 HF0.out.lt, HG0.out.below hb6 HG0.out.lt, HH0.out.below hb6 HH0.out.lt, HY0.out.below hb6 HY0.out.lt⟩) ?_
  refine Lex.lex_do rfl ?_
  go_wp2_with fail
  refine Lex.lexQ_normal (fun _ => ⟨HF0.out.below hb6 HF0.out.lt, HG0.out.below hb6 HG0.out.lt, HH0.out.below hb6 HH0.out.lt, HY0.out.below hb6 HY0.out.lt⟩) ?_
  refine Lex.lex_do rfl ?_
  go_wp2_with fail
  refine Lex.lexQ_normal (fun _ => ⟨HF0.out.below hb6 HF0.out.lt, HG0.out.below hb6 HG0.out.lt, HH0.out.below hb6 HH0.out.lt, HY0.out.below hb6 HY0.out.lt⟩) ?_
  refine Lex.lex_take (v := ?_) rfl rfl (by rfl) (fun _ hS => ?_) ?_; rotate_left 1; (focus (have g0_0 := hS.1.cell0; have g0_1 := hS.1.cell1; have g1_0 := hS.2.1.cell0; have g1_1 := hS.2.1.cell1; have g2_0 := hS.2.2.1.cell0; have g2_1 := hS.2.2.1.cell1; have g3_0 := hS.2.2.2.cell0; have g3_1 := hS.2.2.2.cell1; clear hS; go_simp; with_reducible rfl)); simp only [List.setIfInBounds_toArray, List.set_cons_zero, List.set_cons_succ]
  refine Lex.lex_do rfl ?_
  have cc := cvY V6 hw6
  go_wp2_with fail
  refine cc.mono ?_
  rintro e V7 ⟨v7, rfl, hm7, hn7⟩
  have hb7 := hb6.trans (hn7.mono hb6.size)
  have hw7 := hw6.trans (hn7.mono hw6.size)
  subst hm7
  clear cc hb6 hw6 hn7
  go_wp2_with fail
  refine Lex.lexQ_normal (fun _ => ⟨HF0.out.below hb7 HF0.out.lt, HG0.out.below hb7 HG0.out.lt, HH0.out.below hb7 HH0.out.lt, HY0.out.below hb7 HY0.out.lt⟩) ?_
  refine Lex.lex_do rfl ?_
  go_wp2_with fail
  refine Lex.lexQ_normal (fun _ => ⟨HF0.out.below hb7 HF0.out.lt, HG0.out.below hb7 HG0.out.lt, HH0.out.below hb7 HH0.out.lt, HY0.out.below hb7 HY0.out.lt⟩) ?_
  refine Lex.lex_do rfl ?_
  go_wp2_with fail
  refine Lex.lexQ_normal (fun _ => ⟨HF0.out.below hb7 HF0.out.lt, HG0.out.below hb7 HG0.out.lt, HH0.out.below hb7 HH0.out.lt, HY0.out.below hb7 HY0.out.lt⟩) ?_
  refine Lex.lex_do rfl ?_
  go_wp2_with fail
  refine Lex.lexQ_normal (fun _ => ⟨HF0.out.below hb7 HF0.out.lt, HG0.out.below hb7 HG0.out.lt, HH0.out.below hb7 HH0.out.lt, HY0.out.below hb7 HY0.out.lt⟩) ?_
  refine Lex.lex_take (v := ?_) rfl rfl (by rfl) (fun _ hS => ?_) ?_; rotate_left 1; (focus (have g0_0 := hS.1.cell0; have g0_1 := hS.1.cell1; have g1_0 := hS.2.1.cell0; have g1_1 := hS.2.1.cell1; have g2_0 := hS.2.2.1.cell0; have g2_1 := hS.2.2.1.cell1; have g3_0 := hS.2.2.2.cell0; have g3_1 := hS.2.2.2.cell1; clear hS; go_simp; with_reducible rfl)); simp only [List.setIfInBounds_toArray, List.set_cons_zero, List.set_cons_succ]
  refine Lex.lex_take (v := ?_) rfl rfl (by rfl) (fun _ hS => ?_) ?_; rotate_left 1; (focus (have g0_0 := hS.1.cell0; have g0_1 := hS.1.cell1; have g1_0 := hS.2.1.cell0; have g1_1 := hS.2.1.cell1; have g2_0 := hS.2.2.1.cell0; have g2_1 := hS.2.2.1.cell1; have g3_0 := hS.2.2.2.cell0; have g3_1 := hS.2.2.2.cell1; clear hS; go_simp; with_reducible rfl)); simp only [List.setIfInBounds_toArray, List.set_cons_zero, List.set_cons_succ]
  refine Lex.lex_do rfl ?_
  have cc := coP V7 hw7
  go_wp2_with fail
  refine cc.mono ?_
  rintro e V8 ⟨v8, rfl, hm8, hn8⟩
  have hb8 := hb7.trans (hn8.mono hb7.size)
  have hw8 := hw7.trans (hn8.mono hw7.size)
  clear cc hb7 hw7 hn8
  go_wp2_with fail
  refine Lex.lexQ_normal (fun _ => ⟨HF0.out.below hb8 HF0.out.lt, HG0.out.below hb8 HG0.out.lt, HH0.out.below hb8 HH0.out.lt, HY0.out.below hb8 HY0.out.lt⟩) ?_
  refine Lex.lex_do rfl ?_
  have cc := coY V8 hw8
  go_wp2_with fail
  refine cc.mono ?_
  rintro e V9 ⟨v9, rfl, hm9, hn9⟩
  have hb9 := hb8.trans (hn9.mono hb8.size)
  have hw9 := hw8.trans (hn9.mono hw8.size)
  have hm8 := hm8.below hn9
  clear cc hb8 hw8 hn9
  go_wp2_with fail
  refine Lex.lexQ_normal (fun _ => ⟨HF0.out.below hb9 HF0.out.lt, HG0.out.below hb9 HG0.out.lt, HH0.out.below hb9 HH0.out.lt, HY0.out.below hb9 HY0.out.lt⟩) ?_
  refine Lex.lex_do rfl ?_
  have cc := ccPY V9 hw9 _ _ hm8 hm9
  go_wp2_with fail
  refine cc.mono ?_
  rintro e V10 ⟨v10, rfl, hm10, hn10⟩
  have hb10 := hb9.trans (hn10.mono hb9.size)
  have hw10 := hw9.trans (hn10.mono hw9.size)
  clear hm8 hm9
  subst hm10
  clear cc hb9 hw9 hn10
  go_wp2_with fail
  refine Lex.lexQ_normal (fun _ => ⟨HF0.out.below hb10 HF0.out.lt, HG0.out.below hb10 HG0.out.lt, HH0.out.below hb10 HH0.out.lt, HY0.out.below hb10 HY0.out.lt⟩) ?_
  refine Lex.lex_do rfl ?_
  go_wp2_with fail
  refine Lex.lexQ_normal (fun _ => ⟨HF0.out.below hb10 HF0.out.lt, HG0.out.below hb10 HG0.out.lt, HH0.out.below hb10 HH0.out.lt, HY0.out.below hb10 HY0.out.lt⟩) ?_
  refine Lex.lex_do rfl ?_
  go_wp2_with fail
  refine Lex.lexQ_normal (fun _ => ⟨HF0.out.below hb10 HF0.out.lt, HG0.out.below hb10 HG0.out.lt, HH0.out.below hb10 HH0.out.lt, HY0.out.below hb10 HY0.out.lt⟩) ?_
  refine Lex.lex_do rfl ?_
  go_wp2_with fail
  refine Lex.lexQ_normal (fun _ => ⟨HF0.out.below hb10 HF0.out.lt, HG0.out.below hb10 HG0.out.lt, HH0.out.below hb10 HH0.out.lt, HY0.out.below hb10 HY0.out.lt⟩) ?_
  refine Lex.lex_take (v := ?_) rfl rfl (by rfl) (fun _ hS => ?_) ?_; rotate_left 1; (focus (have g0_0 := hS.1.cell0; have g0_1 := hS.1.cell1; have g1_0 := hS.2.1.cell0; have g1_1 := hS.2.1.cell1; have g2_0 := hS.2.2.1.cell0; have g2_1 := hS.2.2.1.cell1; have g3_0 := hS.2.2.2.cell0; have g3_1 := hS.2.2.2.cell1; clear hS; go_simp; with_reducible rfl)); simp only [List.setIfInBounds_toArray, List.set_cons_zero, List.set_cons_succ]
  refine Lex.lex_take (v := ?_) rfl rfl (by rfl) (fun _ hS => ?_) ?_; rotate_left 1; (focus (have g0_0 := hS.1.cell0; have g0_1 := hS.1.cell1; have g1_0 := hS.2.1.cell0; have g1_1 := hS.2.1.cell1; have g2_0 := hS.2.2.1.cell0; have g2_1 := hS.2.2.1.cell1; have g3_0 := hS.2.2.2.cell0; have g3_1 := hS.2.2.2.cell1; clear hS; go_simp; with_reducible rfl)); simp only [List.setIfInBounds_toArray, List.set_cons_zero, List.set_cons_succ]
  refine Lex.lex_do rfl ?_
  have cc := coY V10 hw10
  go_wp2_with fail
  refine cc.mono ?_
  rintro e V11 ⟨v11, rfl, hm11, hn11⟩
  have hb11 := hb10.trans (hn11.mono hb10.size)
  have hw11 := hw10.trans (hn11.mono hw10.size)
  clear cc hb10 hw10 hn11
  go_wp2_with fail
  refine Lex.lexQ_normal (fun _ => ⟨HF0.out.below hb11 HF0.out.lt, HG0.out.below hb11 HG0.out.lt, HH0.out.below hb11 HH0.out.lt, HY0.out.below hb11 HY0.out.lt⟩) ?_
  refine Lex.lex_do rfl ?_
  have cc := coR V11 hw11
  go_wp2_with fail
  refine cc.mono ?_
  rintro e V12 ⟨v12, rfl, hm12, hn12⟩
  have hb12 := hb11.trans (hn12.mono hb11.size)
  have hw12 := hw11.trans (hn12.mono hw11.size)
  have hm11 := hm11.below hn12
  clear cc hb11 hw11 hn12
  go_wp2_with fail
  refine Lex.lexQ_normal (fun _ => ⟨HF0.out.below hb12 HF0.out.lt, HG0.out.below hb12 HG0.out.lt, HH0.out.below hb12 HH0.out.lt, HY0.out.below hb12 HY0.out.lt⟩) ?_
  refine Lex.lex_do rfl ?_
  have cc := ccYR V12 hw12 _ _ hm11 hm12
  go_wp2_with fail
  refine cc.mono ?_
  rintro e V13 ⟨v13, rfl, hm13, hn13⟩
  have hb13 := hb12.trans (hn13.mono hb12.size)
  have hw13 := hw12.trans (hn13.mono hw12.size)
  clear hm11 hm12
  subst hm13
  clear cc hb12 hw12 hn13
  go_wp2_with fail
  refine Lex.lexQ_normal (fun _ => ⟨HF0.out.below hb13 HF0.out.lt, HG0.out.below hb13 HG0.out.lt, HH0.out.below hb13 HH0.out.lt, HY0.out.below hb13 HY0.out.lt⟩) ?_
  refine Lex.lex_do rfl ?_
  go_wp2_with fail
  refine Lex.lexQ_normal (fun _ => ⟨HF0.out.below hb13 HF0.out.lt, HG0.out.below hb13 HG0.out.lt, HH0.out.below hb13 HH0.out.lt, HY0.out.below hb13 HY0.out.lt⟩) ?_
  refine Lex.lex_do rfl ?_
  go_wp2_with fail
  refine Lex.lexQ_normal (fun _ => ⟨HF0.out.below hb13 HF0.out.lt, HG0.out.below hb13 HG0.out.lt, HH0.out.below hb13 HH0.out.lt, HY0.out.below hb13 HY0.out.lt⟩) ?_
  refine Lex.lex_do rfl ?_
  go_wp2_with fail
  refine Lex.lexQ_normal (fun _ => ⟨HF0.out.below hb13 HF0.out.lt, HG0.out.below hb13 HG0.out.lt, HH0.out.below hb13 HH0.out.lt, HY0.out.below hb13 HY0.out.lt⟩) ?_
  refine Lex.lex_do rfl ?_
  have cc := cl V13 hw13
  go_wp2_with fail
  refine cc.mono ?_
  rintro e V14 ⟨v14, rfl, hm14, hn14⟩
  have hb14 := hb13.trans (hn14.mono hb13.size)
  have hw14 := hw13.trans (hn14.mono hw13.size)
  subst hm14
  clear cc hb13 hw13 hn14
  go_wp2_with fail
  refine Lex.lexQ_normal (fun _ => ⟨HF0.out.below hb14 HF0.out.lt, HG0.out.below hb14 HG0.out.lt, HH0.out.below hb14 HH0.out.lt, HY0.out.below hb14 HY0.out.lt⟩) ?_
  refine Lex.lex_do rfl ?_
  go_wp2_with fail
  refine Lex.lexQ_normal (fun _ => ⟨HF0.out.below hb14 HF0.out.lt, HG0.out.below hb14 HG0.out.lt, HH0.out.below hb14 HH0.out.lt, HY0.out.below hb14 HY0.out.lt⟩) ?_
  refine Lex.lex_do rfl ?_
  go_wp2_with fail
  refine Lex.lexQ_normal (fun _ => ⟨HF0.out.below hb14 HF0.out.lt, HG0.out.below hb14 HG0.out.lt, HH0.out.below hb14 HH0.out.lt, HY0.out.below hb14 HY0.out.lt⟩) ?_
  refine Lex.lex_nil ?_
  have HF1 := Lib.hid (HF0.out.below hb14 HF0.out.lt)
  have HG1 := Lib.hid (HG0.out.below hb14 HG0.out.lt)
  have HH1 := Lib.hid (HH0.out.below hb14 HH0.out.lt)
  have HY1 := Lib.hid (HY0.out.below hb14 HY0.out.lt)
  have HB1 := Lib.hid hw14
  clear hb14 hw14 HF0 HG0 HH0 HY0 HB0
  go_upto_region 6 with fail
  refine Lex.wp_region_lex (fun w' => Two w' w.heap.size (.int .i64 p) (.int .i64 q) 23 ∧ Two w' (w.heap.size + 1) (.int .i64 r) (.int .i64 s) 23 ∧ Two w' (w.heap.size + 1 + 1) (.int .i64 a) (.int .i64 b) 23 ∧ Two w' YB (.int .i64 y1) (.int .i64 y2) 23) (fun _ => true)
    [(0, true), (1, false), (2, false), (3, false), (4, true), (6, true), (5, false), (7, false), (8, false), (9, false), (10, false), (11, false), (12, true), (14, true), (13, false), (15, false), (16, false), (17, false), (18, false)]
    (by kernel_rfl) (by kernel_rfl) (by kernel_rfl) (by kernel_rfl) ⟨HF1.out, HG1.out, HH1.out, HY1.out⟩ ?_
  have hb15 : Below V14.heap.size V14 V14.drew := ⟨rfl, rfl, rfl, Nat.le_refl _, fun _ _ => rfl⟩
  have hw15 : Below w.heap.size w V14.drew := ⟨HB1.out.os, HB1.out.tape, HB1.out.output, HB1.out.size, HB1.out.block⟩
  generalize hV0 : V14.drew = V15 at *
  clear hV0
  refine Lex.lex_take (v := ?_) rfl rfl (by rfl) (fun _ hS => ?_) ?_; rotate_left 1; (focus (have g0_0 := hS.1.cell0; have g0_1 := hS.1.cell1; have g1_0 := hS.2.1.cell0; have g1_1 := hS.2.1.cell1; have g2_0 := hS.2.2.1.cell0; have g2_1 := hS.2.2.1.cell1; have g3_0 := hS.2.2.2.cell0; have g3_1 := hS.2.2.2.cell1; clear hS; go_simp; with_reducible rfl)); simp only [List.setIfInBounds_toArray, List.set_cons_zero, List.set_cons_succ]
  refine Lex.lex_do rfl ?_
  have cc := cvX V15 hw15
  go_wp2_with fail
  refine cc.mono ?_
  rintro e V16 ⟨v16, rfl, hm16, hn16⟩
  have hb16 := hb15.trans (hn16.mono hb15.size)
  have hw16 := hw15.trans (hn16.mono hw15.size)
  subst hm16
  clear cc hb15 hw15 hn16
  go_wp2_with fail
  refine Lex.lexQ_normal (fun _ => ⟨HF1.out.below hb16 HF1.out.lt, HG1.out.below hb16 HG1.out.lt, HH1.out.below hb16 HH1.out.lt, HY1.out.below hb16 HY1.out.lt⟩) ?_
  refine Lex.lex_do rfl ?_
  go_wp2_with fail
  refine Lex.lexQ_normal (fun _ => ⟨HF1.out.below hb16 HF1.out.lt, HG1.out.below hb16 HG1.out.lt, HH1.out.below hb16 HH1.out.lt, HY1.out.below hb16 HY1.out.lt⟩) ?_
  refine Lex.lex_do rfl ?_
  go_wp2_with fail
  refine Lex.lexQ_normal (fun _ => ⟨HF1.out.below hb16 HF1.out.lt, HG1.out.below hb16 HG1.out.lt, HH1.out.below hb16 HH1.out.lt, HY1.out.below hb16 HY1.out.lt⟩) ?_
  refine Lex.lex_skip rfl rfl (by rfl) ?_; simp only [List.setIfInBounds_toArray, List.set_cons_zero, List.set_cons_succ]
  refine Lex.lex_skip rfl rfl (by rfl) ?_; simp only [List.setIfInBounds_toArray, List.set_cons_zero, List.set_cons_succ]
  refine Lex.lex_do rfl ?_
  go_wp2_with fail
  refine Lex.lexQ_normal (fun _ => ⟨HF1.out.below hb16 HF1.out.lt, HG1.out.below hb16 HG1.out.lt, HH1.out.below hb16 HH1.out.lt, HY1.out.below hb16 HY1.out.lt⟩) ?_
  refine Lex.lex_do rfl ?_
  go_wp2_with fail
  refine Lex.lexQ_normal (fun _ => ⟨HF1.out.below hb16 HF1.out.lt, HG1.out.below hb16 HG1.out.lt, HH1.out.below hb16 HH1.out.lt, HY1.out.below hb16 HY1.out.lt⟩) ?_
  refine Lex.lex_do rfl ?_
  go_wp2_with fail
  refine Lex.lexQ_normal (fun _ => ⟨HF1.out.below hb16 HF1.out.lt, HG1.out.below hb16 HG1.out.lt, HH1.out.below hb16 HH1.out.lt, HY1.out.below hb16 HY1.out.lt⟩) ?_
  refine Lex.lex_do rfl ?_
  go_wp2_with fail
  refine Lex.lexQ_normal (fun _ => ⟨HF1.out.below hb16 HF1.out.lt, HG1.out.below hb16 HG1.out.lt, HH1.out.below hb16 HH1.out.lt, HY1.out.below hb16 HY1.out.lt⟩) ?_
  refine Lex.lex_do rfl ?_
  go_wp2_with fail
  refine Lex.lexQ_normal (fun _ => ⟨HF1.out.below hb16 HF1.out.lt, HG1.out.below hb16 HG1.out.lt, HH1.out.below hb16 HH1.out.lt, HY1.out.below hb16 HY1.out.lt⟩) ?_
  refine Lex.lex_do rfl ?_
  go_wp2_with fail
  refine Lex.lexQ_normal (fun _ => ⟨HF1.out.below hb16 HF1.out.lt, HG1.out.below hb16 HG1.out.lt, HH1.out.below hb16 HH1.out.lt, HY1.out.below hb16 HY1.out.lt⟩) ?_
  refine Lex.lex_skip rfl rfl (by rfl) ?_; simp only [List.setIfInBounds_toArray, List.set_cons_zero, List.set_cons_succ]
  refine Lex.lex_skip rfl rfl (by rfl) ?_; simp only [List.setIfInBounds_toArray, List.set_cons_zero, List.set_cons_succ]
  refine Lex.lex_do rfl ?_
  go_wp2_with fail
  refine Lex.lexQ_normal (fun _ => ⟨HF1.out.below hb16 HF1.out.lt, HG1.out.below hb16 HG1.out.lt, HH1.out.below hb16 HH1.out.lt, HY1.out.below hb16 HY1.out.lt⟩) ?_
  refine Lex.lex_do rfl ?_
  go_wp2_with fail
  refine Lex.lexQ_normal (fun _ => ⟨HF1.out.below hb16 HF1.out.lt, HG1.out.below hb16 HG1.out.lt, HH1.out.below hb16 HH1.out.lt, HY1.out.below hb16 HY1.out.lt⟩) ?_
  refine Lex.lex_do rfl ?_
  go_wp2_with fail
  refine Lex.lexQ_normal (fun _ => ⟨HF1.out.below hb16 HF1.out.lt, HG1.out.below hb16 HG1.out.lt, HH1.out.below hb16 HH1.out.lt, HY1.out.below hb16 HY1.out.lt⟩) ?_
  refine Lex.lex_do rfl ?_
  go_wp2_with fail
  refine Lex.lexQ_normal (fun _ => ⟨HF1.out.below hb16 HF1.out.lt, HG1.out.below hb16 HG1.out.lt, HH1.out.below hb16 HH1.out.lt, HY1.out.below hb16 HY1.out.lt⟩) ?_
  refine Lex.lex_do rfl ?_
  go_wp2_with fail
  refine Lex.lexQ_normal (fun _ => ⟨HF1.out.below hb16 HF1.out.lt, HG1.out.below hb16 HG1.out.lt, HH1.out.below hb16 HH1.out.lt, HY1.out.below hb16 HY1.out.lt⟩) ?_
  refine Lex.lex_nil ?_
  have HF2 := Lib.hid (HF1.out.below hb16 HF1.out.lt)
  have HG2 := Lib.hid (HG1.out.below hb16 HG1.out.lt)
  have HH2 := Lib.hid (HH1.out.below hb16 HH1.out.lt)
  have HY2 := Lib.hid (HY1.out.below hb16 HY1.out.lt)
  have HB2 := Lib.hid hw16
  clear hb16 hw16 HF1 HG1 HH1 HY1 HB1
  go_wp2
  go_ret
  exact ⟨rfl, HB2.out⟩

set_option maxRecDepth 100000 in
set_option maxHeartbeats 3200000 in
theorem simplest_db (p q r s a b : Int) (w : World) (i1 : I64 p) (i2 : I64 q) (i3 : I64 r) (i4 : I64 s) (h1 : FOk (p, q)) (h2 : FOk (r, s)) (h : ¬ 0 < p * s - r * q) (h3 : FOk (a, b)) (h4 : 0 < p * b - a * q) :
    Calls Try.prog 4 #[.agg #[.int .i64 p, .int .i64 q], .agg #[.int .i64 r, .int .i64 s], .agg #[.int .i64 a, .int .i64 b]] w (RetV (.bool true) w) := by
  have hle : ¬ 0 < p * s - r * q := h
  have hb := betwM_ok h1 h2 hle
  obtain ⟨y1, y2, hy⟩ : ∃ y1 y2, betwM p q r s = (y1, y2) := ⟨_, _, rfl⟩
  rw [hy] at hb
  have cb := between_w i1 i2 i3 i4 (.tuple #[.agg #[.int .i64 y1, .int .i64 y2], .int .i64 0]) (by unfold betwR; rw [if_neg (fun g => g ⟨h1, h2⟩), if_neg hle, hy]) (w := w)
  have cv1 := valid_w p q true (decide_eq_true h1) (w := w)
  have cv2 := valid_w r s true (decide_eq_true h2) (w := w)
  have cvY := valid_w y1 y2 true (decide_eq_true hb.ok) (w := w)
  have coP := of_w h1 (w := w)
  have coR := of_w h2 (w := w)
  have coY := of_w hb.ok (w := w)
  have ccPR := cmp_w p q r s (w := w)
  have ccPY := cmp_w p q y1 y2 (w := w)
  have ccYR := cmp_w y1 y2 r s (w := w)
  have e1 := sgn_le (show p * s ≤ r * q by omega)
  have e2 := sgn_le hb.lo
  have e3 := sgn_le hb.hi
  have e4 := hb.ok.2.2.1
  simp only at e4
  generalize sgn (p * s - r * q) = g1 at *
  generalize sgn (p * y2 - y1 * q) = g2 at *
  generalize sgn (y1 * s - r * y2) = g3 at *
  have d1 : decide (0 < g1) = false := decide_eq_false (by omega)
  have d2 : decide (0 < g2) = false := decide_eq_false (by omega)
  have d3 : decide (0 < g3) = false := decide_eq_false (by omega)
  have HLE := Lib.hid hb.least
  clear e1 e2 e3 hb hy hle i1 i2 i3 i4
  have cvX := valid_w a b true (decide_eq_true h3) (w := w)
  have coX := of_w h3 (w := w)
  have ccPX := cmp_w p q a b (w := w)
  rw [sgn_pos h4] at ccPX
  clear h h1 h2 h3 h4 HLE
  have cl := lives_w (w := w)
  obtain ⟨W3, hW3⟩ : ∃ W3, W3 = (((w.alloc (.cells #[.int .i64 p, .int .i64 q] 23)).alloc (.cells #[.int .i64 r, .int .i64 s] 23)).alloc (.cells #[.int .i64 a, .int .i64 b] 23)) := ⟨_, rfl⟩
  have hB : Below w.heap.size w W3 := by rw [hW3]; exact ((((Below.refl _ _).alloc (Nat.le_refl _) _).alloc (by simp; try omega) _).alloc (by simp; try omega) _)
  have HBW := Lib.hid hB
  have HF0 := Lib.hid (show Two W3 (w.heap.size) (.int .i64 p) (.int .i64 q) 23 by rw [hW3]; exact (((((Two.newAt _ _ _ _ _ (by simp))).alloc _)).alloc _))
  have HG0 := Lib.hid (show Two W3 (w.heap.size + 1) (.int .i64 r) (.int .i64 s) 23 by rw [hW3]; exact (((Two.newAt _ _ _ _ _ (by simp))).alloc _))
  have HH0 := Lib.hid (show Two W3 (w.heap.size + 1 + 1) (.int .i64 a) (.int .i64 b) 23 by rw [hW3]; exact (Two.newAt _ _ _ _ _ (by simp)))
  clear hB
  go_enter Try.func4, Try.ntmps4
  go_upto_region 1 with fail
  rw [← hW3]
  clear hW3
  have k0 := HF0.out.cell0
  have k1 := HF0.out.cell1
  have k2 := HG0.out.cell0
  have k3 := HG0.out.cell1
  have cc := cb W3 HBW.out
  go_wp2_with fail
  refine cc.mono ?_
  rintro e V1 ⟨v1, rfl, hm1, hn1⟩
  subst hm1
  clear cc cb k0 k1 k2 k3
  obtain ⟨YB, hYB⟩ : ∃ YB, YB = V1.heap.size := ⟨_, rfl⟩
  obtain ⟨U, hU⟩ : ∃ U, U = V1.alloc (.cells #[.int .i64 y1, .int .i64 y2] 23) := ⟨_, rfl⟩
  have hbU : Below W3.heap.size W3 U := by rw [hU]; exact hn1.alloc hn1.size _
  have HF := Lib.hid (HF0.out.below hbU HF0.out.lt)
  have HG := Lib.hid (HG0.out.below hbU HG0.out.lt)
  have HH := Lib.hid (HH0.out.below hbU HH0.out.lt)
  have HY := Lib.hid (show Two U YB (.int .i64 y1) (.int .i64 y2) 23 by rw [hU, hYB]; exact Two.newAt _ _ _ _ _ rfl)
  have HBU := Lib.hid (HBW.out.trans (hbU.mono HBW.out.size))
  clear hn1 hbU HF0 HG0 HH0 HBW
  go_upto_region 2 with fail
  rw [← hYB, ← hU]
  clear hU hYB
  refine Lex.wp_region_lex (fun w' => Two w' w.heap.size (.int .i64 p) (.int .i64 q) 23 ∧ Two w' (w.heap.size + 1) (.int .i64 r) (.int .i64 s) 23 ∧ Two w' (w.heap.size + 1 + 1) (.int .i64 a) (.int .i64 b) 23 ∧ Two w' YB (.int .i64 y1) (.int .i64 y2) 23) (fun _ => true)
    [(0, true), (1, false), (2, false), (3, false), (4, true), (5, false), (6, false), (7, false), (8, false), (9, true), (11, true), (10, false), (12, false), (13, false), (14, false), (15, false)]
    (by kernel_rfl) (by kernel_rfl) (by kernel_rfl) (by kernel_rfl) ⟨HF.out, HG.out, HH.out, HY.out⟩ ?_
  have hb0 : Below U.heap.size U U.drew := ⟨rfl, rfl, rfl, Nat.le_refl _, fun _ _ => rfl⟩
  have hw0 : Below w.heap.size w U.drew := ⟨HBU.out.os, HBU.out.tape, HBU.out.output, HBU.out.size, HBU.out.block⟩
  generalize hV0 : U.drew = V0 at *
  clear hV0
  refine Lex.lex_take (v := ?_) rfl rfl (by rfl) (fun _ hS => ?_) ?_; rotate_left 1; (focus (have g0_0 := hS.1.cell0; have g0_1 := hS.1.cell1; have g1_0 := hS.2.1.cell0; have g1_1 := hS.2.1.cell1; have g2_0 := hS.2.2.1.cell0; have g2_1 := hS.2.2.1.cell1; have g3_0 := hS.2.2.2.cell0; have g3_1 := hS.2.2.2.cell1; clear hS; go_simp; with_reducible rfl)); simp only [List.setIfInBounds_toArray, List.set_cons_zero, List.set_cons_succ]
  refine Lex.lex_do rfl ?_
  have cc := cv1 V0 hw0
  go_wp2_with fail
  refine cc.mono ?_
  rintro e V1 ⟨v1, rfl, hm1, hn1⟩
  have hb1 := hb0.trans (hn1.mono hb0.size)
  have hw1 := hw0.trans (hn1.mono hw0.size)
  subst hm1
  clear cc hb0 hw0 hn1
  go_wp2_with fail
  refine Lex.lexQ_normal (fun _ => ⟨HF.out.below hb1 HF.out.lt, HG.out.below hb1 HG.out.lt, HH.out.below hb1 HH.out.lt, HY.out.below hb1 HY.out.lt⟩) ?_
  refine Lex.lex_do rfl ?_
  go_wp2_with fail
  refine Lex.lexQ_normal (fun _ => ⟨HF.out.below hb1 HF.out.lt, HG.out.below hb1 HG.out.lt, HH.out.below hb1 HH.out.lt, HY.out.below hb1 HY.out.lt⟩) ?_
  refine Lex.lex_do rfl ?_
  go_wp2_with fail
  refine Lex.lexQ_normal (fun _ => ⟨HF.out.below hb1 HF.out.lt, HG.out.below hb1 HG.out.lt, HH.out.below hb1 HH.out.lt, HY.out.below hb1 HY.out.lt⟩) ?_
  refine Lex.lex_take (v := ?_) rfl rfl (by rfl) (fun _ hS => ?_) ?_; rotate_left 1; (focus (have g0_0 := hS.1.cell0; have g0_1 := hS.1.cell1; have g1_0 := hS.2.1.cell0; have g1_1 := hS.2.1.cell1; have g2_0 := hS.2.2.1.cell0; have g2_1 := hS.2.2.1.cell1; have g3_0 := hS.2.2.2.cell0; have g3_1 := hS.2.2.2.cell1; clear hS; go_simp; with_reducible rfl)); simp only [List.setIfInBounds_toArray, List.set_cons_zero, List.set_cons_succ]
  refine Lex.lex_do rfl ?_
  have cc := cv2 V1 hw1
  go_wp2_with fail
  refine cc.mono ?_
  rintro e V2 ⟨v2, rfl, hm2, hn2⟩
  have hb2 := hb1.trans (hn2.mono hb1.size)
  have hw2 := hw1.trans (hn2.mono hw1.size)
  subst hm2
  clear cc hb1 hw1 hn2
  go_wp2_with fail
  refine Lex.lexQ_normal (fun _ => ⟨HF.out.below hb2 HF.out.lt, HG.out.below hb2 HG.out.lt, HH.out.below hb2 HH.out.lt, HY.out.below hb2 HY.out.lt⟩) ?_
  refine Lex.lex_do rfl ?_
  go_wp2_with fail
  refine Lex.lexQ_normal (fun _ => ⟨HF.out.below hb2 HF.out.lt, HG.out.below hb2 HG.out.lt, HH.out.below hb2 HH.out.lt, HY.out.below hb2 HY.out.lt⟩) ?_
  refine Lex.lex_do rfl ?_
  go_wp2_with fail
  refine Lex.lexQ_normal (fun _ => ⟨HF.out.below hb2 HF.out.lt, HG.out.below hb2 HG.out.lt, HH.out.below hb2 HH.out.lt, HY.out.below hb2 HY.out.lt⟩) ?_
  refine Lex.lex_do rfl ?_
  go_wp2_with fail
  refine Lex.lexQ_normal (fun _ => ⟨HF.out.below hb2 HF.out.lt, HG.out.below hb2 HG.out.lt, HH.out.below hb2 HH.out.lt, HY.out.below hb2 HY.out.lt⟩) ?_
  refine Lex.lex_take (v := ?_) rfl rfl (by rfl) (fun _ hS => ?_) ?_; rotate_left 1; (focus (have g0_0 := hS.1.cell0; have g0_1 := hS.1.cell1; have g1_0 := hS.2.1.cell0; have g1_1 := hS.2.1.cell1; have g2_0 := hS.2.2.1.cell0; have g2_1 := hS.2.2.1.cell1; have g3_0 := hS.2.2.2.cell0; have g3_1 := hS.2.2.2.cell1; clear hS; go_simp; with_reducible rfl)); simp only [List.setIfInBounds_toArray, List.set_cons_zero, List.set_cons_succ]
  refine Lex.lex_take (v := ?_) rfl rfl (by rfl) (fun _ hS => ?_) ?_; rotate_left 1; (focus (have g0_0 := hS.1.cell0; have g0_1 := hS.1.cell1; have g1_0 := hS.2.1.cell0; have g1_1 := hS.2.1.cell1; have g2_0 := hS.2.2.1.cell0; have g2_1 := hS.2.2.1.cell1; have g3_0 := hS.2.2.2.cell0; have g3_1 := hS.2.2.2.cell1; clear hS; go_simp; with_reducible rfl)); simp only [List.setIfInBounds_toArray, List.set_cons_zero, List.set_cons_succ]
  refine Lex.lex_do rfl ?_
  have cc := coP V2 hw2
  go_wp2_with fail
  refine cc.mono ?_
  rintro e V3 ⟨v3, rfl, hm3, hn3⟩
  have hb3 := hb2.trans (hn3.mono hb2.size)
  have hw3 := hw2.trans (hn3.mono hw2.size)
  clear cc hb2 hw2 hn3
  go_wp2_with fail
  refine Lex.lexQ_normal (fun _ => ⟨HF.out.below hb3 HF.out.lt, HG.out.below hb3 HG.out.lt, HH.out.below hb3 HH.out.lt, HY.out.below hb3 HY.out.lt⟩) ?_
  refine Lex.lex_do rfl ?_
  have cc := coR V3 hw3
  go_wp2_with fail
  refine cc.mono ?_
  rintro e V4 ⟨v4, rfl, hm4, hn4⟩
  have hb4 := hb3.trans (hn4.mono hb3.size)
  have hw4 := hw3.trans (hn4.mono hw3.size)
  have hm3 := hm3.below hn4
  clear cc hb3 hw3 hn4
  go_wp2_with fail
  refine Lex.lexQ_normal (fun _ => ⟨HF.out.below hb4 HF.out.lt, HG.out.below hb4 HG.out.lt, HH.out.below hb4 HH.out.lt, HY.out.below hb4 HY.out.lt⟩) ?_
  refine Lex.lex_do rfl ?_
  have cc := ccPR V4 hw4 _ _ hm3 hm4
  go_wp2_with fail
  refine cc.mono ?_
  rintro e V5 ⟨v5, rfl, hm5, hn5⟩
  have hb5 := hb4.trans (hn5.mono hb4.size)
  have hw5 := hw4.trans (hn5.mono hw4.size)
  clear hm3 hm4
  subst hm5
  clear cc hb4 hw4 hn5
  go_wp2_with fail
  refine Lex.lexQ_normal (fun _ => ⟨HF.out.below hb5 HF.out.lt, HG.out.below hb5 HG.out.lt, HH.out.below hb5 HH.out.lt, HY.out.below hb5 HY.out.lt⟩) ?_
  refine Lex.lex_do rfl ?_
  go_wp2_with fail
  refine Lex.lexQ_normal (fun _ => ⟨HF.out.below hb5 HF.out.lt, HG.out.below hb5 HG.out.lt, HH.out.below hb5 HH.out.lt, HY.out.below hb5 HY.out.lt⟩) ?_
  refine Lex.lex_do rfl ?_
  go_wp2_with fail
  refine Lex.lexQ_normal (fun _ => ⟨HF.out.below hb5 HF.out.lt, HG.out.below hb5 HG.out.lt, HH.out.below hb5 HH.out.lt, HY.out.below hb5 HY.out.lt⟩) ?_
  refine Lex.lex_nil ?_
  have HF0 := Lib.hid (HF.out.below hb5 HF.out.lt)
  have HG0 := Lib.hid (HG.out.below hb5 HG.out.lt)
  have HH0 := Lib.hid (HH.out.below hb5 HH.out.lt)
  have HY0 := Lib.hid (HY.out.below hb5 HY.out.lt)
  have HB0 := Lib.hid hw5
  clear hb5 hw5 HF HG HH HY HBU
  go_upto_region 4 with fail
  refine Lex.wp_region_lex (fun w' => Two w' w.heap.size (.int .i64 p) (.int .i64 q) 23 ∧ Two w' (w.heap.size + 1) (.int .i64 r) (.int .i64 s) 23 ∧ Two w' (w.heap.size + 1 + 1) (.int .i64 a) (.int .i64 b) 23 ∧ Two w' YB (.int .i64 y1) (.int .i64 y2) 23) (fun _ => true)
    [(0, false), (1, false), (2, false), (3, true), (4, false), (5, false), (6, false), (7, false), (8, true), (10, true), (9, false), (11, false), (12, false), (13, false), (14, false), (15, false), (16, true), (18, true), (17, false), (19, false), (20, false), (21, false), (22, false), (23, false), (24, false), (25, false), (26, false)]
    (by kernel_rfl) (by kernel_rfl) (by kernel_rfl) (by kernel_rfl) ⟨HF0.out, HG0.out, HH0.out, HY0.out⟩ ?_
  have hb6 : Below V5.heap.size V5 V5.drew := ⟨rfl, rfl, rfl, Nat.le_refl _, fun _ _ => rfl⟩
  have hw6 : Below w.heap.size w V5.drew := ⟨HB0.out.os, HB0.out.tape, HB0.out.output, HB0.out.size, HB0.out.block⟩
  generalize hV0 : V5.drew = V6 at *
  clear hV0
  refine Lex.lex_do rfl ?_
  go_wp2_with fail
  refine Lex.lexQ_normal (fun _ => ⟨HF0.out.below hb6 HF0.out.lt, HG0.out.below hb6 HG0.out.lt, HH0.out.below hb6 HH0.out.lt, HY0.out.below hb6 HY0.out.lt⟩) ?_
  refine Lex.lex_do rfl ?_
  go_wp2_with fail
  refine Lex.lexQ_normal (fun _ => ⟨HF0.out.below hb6 HF0.out.lt, HG0.out.below hb6 HG0.out.lt, HH0.out.below hb6 HH0.out.lt, HY0.out.below hb6 HY0.out.lt⟩) ?_
  refine Lex.lex_do rfl ?_
  go_wp2_with fail
  refine Lex.lexQ_normal (fun _ => ⟨HF0.out.below hb6 HF0.out.lt, HG0.out.below hb6 HG0.out.lt, HH0.out.below hb6 HH0.out.lt, HY0.out.below hb6 HY0.out.lt⟩) ?_
  refine Lex.lex_take (v := ?_) rfl rfl (by rfl) (fun _ hS => ?_) ?_; rotate_left 1; (focus (have g0_0 := hS.1.cell0; have g0_1 := hS.1.cell1; have g1_0 := hS.2.1.cell0; have g1_1 := hS.2.1.cell1; have g2_0 := hS.2.2.1.cell0; have g2_1 := hS.2.2.1.cell1; have g3_0 := hS.2.2.2.cell0; have g3_1 := hS.2.2.2.cell1; clear hS; go_simp; with_reducible rfl)); simp only [List.setIfInBounds_toArray, List.set_cons_zero, List.set_cons_succ]
  refine Lex.lex_do rfl ?_
  have cc := cvY V6 hw6
  go_wp2_with fail
  refine cc.mono ?_
  rintro e V7 ⟨v7, rfl, hm7, hn7⟩
  have hb7 := hb6.trans (hn7.mono hb6.size)
  have hw7 := hw6.trans (hn7.mono hw6.size)
  subst hm7
  clear cc hb6 hw6 hn7
  go_wp2_with fail
  refine Lex.lexQ_normal (fun _ => ⟨HF0.out.below hb7 HF0.out.lt, HG0.out.below hb7 HG0.out.lt, HH0.out.below hb7 HH0.out.lt, HY0.out.below hb7 HY0.out.lt⟩) ?_
  refine Lex.lex_do rfl ?_
  go_wp2_with fail
  refine Lex.lexQ_normal (fun _ => ⟨HF0.out.below hb7 HF0.out.lt, HG0.out.below hb7 HG0.out.lt, HH0.out.below hb7 HH0.out.lt, HY0.out.below hb7 HY0.out.lt⟩) ?_
  refine Lex.lex_do rfl ?_
  go_wp2_with fail
  refine Lex.lexQ_normal (fun _ => ⟨HF0.out.below hb7 HF0.out.lt, HG0.out.below hb7 HG0.out.lt, HH0.out.below hb7 HH0.out.lt, HY0.out.below hb7 HY0.out.lt⟩) ?_
  refine Lex.lex_do rfl ?_
  go_wp2_with fail
  refine Lex.lexQ_normal (fun _ => ⟨HF0.out.below hb7 HF0.out.lt, HG0.out.below hb7 HG0.out.lt, HH0.out.below hb7 HH0.out.lt, HY0.out.below hb7 HY0.out.lt⟩) ?_
  refine Lex.lex_take (v := ?_) rfl rfl (by rfl) (fun _ hS => ?_) ?_; rotate_left 1; (focus (have g0_0 := hS.1.cell0; have g0_1 := hS.1.cell1; have g1_0 := hS.2.1.cell0; have g1_1 := hS.2.1.cell1; have g2_0 := hS.2.2.1.cell0; have g2_1 := hS.2.2.1.cell1; have g3_0 := hS.2.2.2.cell0; have g3_1 := hS.2.2.2.cell1; clear hS; go_simp; with_reducible rfl)); simp only [List.setIfInBounds_toArray, List.set_cons_zero, List.set_cons_succ]
  refine Lex.lex_take (v := ?_) rfl rfl (by rfl) (fun _ hS => ?_) ?_; rotate_left 1; (focus (have g0_0 := hS.1.cell0; have g0_1 := hS.1.cell1; have g1_0 := hS.2.1.cell0; have g1_1 := hS.2.1.cell1; have g2_0 := hS.2.2.1.cell0; have g2_1 := hS.2.2.1.cell1; have g3_0 := hS.2.2.2.cell0; have g3_1 := hS.2.2.2.cell1; clear hS; go_simp; with_reducible rfl)); simp only [List.setIfInBounds_toArray, List.set_cons_zero, List.set_cons_succ]
  refine Lex.lex_do rfl ?_
  have cc := coP V7 hw7
  go_wp2_with fail
  refine cc.mono ?_
  rintro e V8 ⟨v8, rfl, hm8, hn8⟩
  have hb8 := hb7.trans (hn8.mono hb7.size)
  have hw8 := hw7.trans (hn8.mono hw7.size)
  clear cc hb7 hw7 hn8
  go_wp2_with fail
  refine Lex.lexQ_normal (fun _ => ⟨HF0.out.below hb8 HF0.out.lt, HG0.out.below hb8 HG0.out.lt, HH0.out.below hb8 HH0.out.lt, HY0.out.below hb8 HY0.out.lt⟩) ?_
  refine Lex.lex_do rfl ?_
  have cc := coY V8 hw8
  go_wp2_with fail
  refine cc.mono ?_
  rintro e V9 ⟨v9, rfl, hm9, hn9⟩
  have hb9 := hb8.trans (hn9.mono hb8.size)
  have hw9 := hw8.trans (hn9.mono hw8.size)
  have hm8 := hm8.below hn9
  clear cc hb8 hw8 hn9
  go_wp2_with fail
  refine Lex.lexQ_normal (fun _ => ⟨HF0.out.below hb9 HF0.out.lt, HG0.out.below hb9 HG0.out.lt, HH0.out.below hb9 HH0.out.lt, HY0.out.below hb9 HY0.out.lt⟩) ?_
  refine Lex.lex_do rfl ?_
  have cc := ccPY V9 hw9 _ _ hm8 hm9
  go_wp2_with fail
  refine cc.mono ?_
  rintro e V10 ⟨v10, rfl, hm10, hn10⟩
  have hb10 := hb9.trans (hn10.mono hb9.size)
  have hw10 := hw9.trans (hn10.mono hw9.size)
  clear hm8 hm9
  subst hm10
  clear cc hb9 hw9 hn10
  go_wp2_with fail
  refine Lex.lexQ_normal (fun _ => ⟨HF0.out.below hb10 HF0.out.lt, HG0.out.below hb10 HG0.out.lt, HH0.out.below hb10 HH0.out.lt, HY0.out.below hb10 HY0.out.lt⟩) ?_
  refine Lex.lex_do rfl ?_
  go_wp2_with fail
  refine Lex.lexQ_normal (fun _ => ⟨HF0.out.below hb10 HF0.out.lt, HG0.out.below hb10 HG0.out.lt, HH0.out.below hb10 HH0.out.lt, HY0.out.below hb10 HY0.out.lt⟩) ?_
  refine Lex.lex_do rfl ?_
  go_wp2_with fail
  refine Lex.lexQ_normal (fun _ => ⟨HF0.out.below hb10 HF0.out.lt, HG0.out.below hb10 HG0.out.lt, HH0.out.below hb10 HH0.out.lt, HY0.out.below hb10 HY0.out.lt⟩) ?_
  refine Lex.lex_do rfl ?_
  go_wp2_with fail
  refine Lex.lexQ_normal (fun _ => ⟨HF0.out.below hb10 HF0.out.lt, HG0.out.below hb10 HG0.out.lt, HH0.out.below hb10 HH0.out.lt, HY0.out.below hb10 HY0.out.lt⟩) ?_
  refine Lex.lex_take (v := ?_) rfl rfl (by rfl) (fun _ hS => ?_) ?_; rotate_left 1; (focus (have g0_0 := hS.1.cell0; have g0_1 := hS.1.cell1; have g1_0 := hS.2.1.cell0; have g1_1 := hS.2.1.cell1; have g2_0 := hS.2.2.1.cell0; have g2_1 := hS.2.2.1.cell1; have g3_0 := hS.2.2.2.cell0; have g3_1 := hS.2.2.2.cell1; clear hS; go_simp; with_reducible rfl)); simp only [List.setIfInBounds_toArray, List.set_cons_zero, List.set_cons_succ]
  refine Lex.lex_take (v := ?_) rfl rfl (by rfl) (fun _ hS => ?_) ?_; rotate_left 1; (focus (have g0_0 := hS.1.cell0; have g0_1 := hS.1.cell1; have g1_0 := hS.2.1.cell0; have g1_1 := hS.2.1.cell1; have g2_0 := hS.2.2.1.cell0; have g2_1 := hS.2.2.1.cell1; have g3_0 := hS.2.2.2.cell0; have g3_1 := hS.2.2.2.cell1; clear hS; go_simp; with_reducible rfl)); simp only [List.setIfInBounds_toArray, List.set_cons_zero, List.set_cons_succ]
  refine Lex.lex_do rfl ?_
  have cc := coY V10 hw10
  go_wp2_with fail
  refine cc.mono ?_
  rintro e V11 ⟨v11, rfl, hm11, hn11⟩
  have hb11 := hb10.trans (hn11.mono hb10.size)
  have hw11 := hw10.trans (hn11.mono hw10.size)
  clear cc hb10 hw10 hn11
  go_wp2_with fail
  refine Lex.lexQ_normal (fun _ => ⟨HF0.out.below hb11 HF0.out.lt, HG0.out.below hb11 HG0.out.lt, HH0.out.below hb11 HH0.out.lt, HY0.out.below hb11 HY0.out.lt⟩) ?_
  refine Lex.lex_do rfl ?_
  have cc := coR V11 hw11
  go_wp2_with fail
  refine cc.mono ?_
  rintro e V12 ⟨v12, rfl, hm12, hn12⟩
  have hb12 := hb11.trans (hn12.mono hb11.size)
  have hw12 := hw11.trans (hn12.mono hw11.size)
  have hm11 := hm11.below hn12
  clear cc hb11 hw11 hn12
  go_wp2_with fail
  refine Lex.lexQ_normal (fun _ => ⟨HF0.out.below hb12 HF0.out.lt, HG0.out.below hb12 HG0.out.lt, HH0.out.below hb12 HH0.out.lt, HY0.out.below hb12 HY0.out.lt⟩) ?_
  refine Lex.lex_do rfl ?_
  have cc := ccYR V12 hw12 _ _ hm11 hm12
  go_wp2_with fail
  refine cc.mono ?_
  rintro e V13 ⟨v13, rfl, hm13, hn13⟩
  have hb13 := hb12.trans (hn13.mono hb12.size)
  have hw13 := hw12.trans (hn13.mono hw12.size)
  clear hm11 hm12
  subst hm13
  clear cc hb12 hw12 hn13
  go_wp2_with fail
  refine Lex.lexQ_normal (fun _ => ⟨HF0.out.below hb13 HF0.out.lt, HG0.out.below hb13 HG0.out.lt, HH0.out.below hb13 HH0.out.lt, HY0.out.below hb13 HY0.out.lt⟩) ?_
  refine Lex.lex_do rfl ?_
  go_wp2_with fail
  refine Lex.lexQ_normal (fun _ => ⟨HF0.out.below hb13 HF0.out.lt, HG0.out.below hb13 HG0.out.lt, HH0.out.below hb13 HH0.out.lt, HY0.out.below hb13 HY0.out.lt⟩) ?_
  refine Lex.lex_do rfl ?_
  go_wp2_with fail
  refine Lex.lexQ_normal (fun _ => ⟨HF0.out.below hb13 HF0.out.lt, HG0.out.below hb13 HG0.out.lt, HH0.out.below hb13 HH0.out.lt, HY0.out.below hb13 HY0.out.lt⟩) ?_
  refine Lex.lex_do rfl ?_
  go_wp2_with fail
  refine Lex.lexQ_normal (fun _ => ⟨HF0.out.below hb13 HF0.out.lt, HG0.out.below hb13 HG0.out.lt, HH0.out.below hb13 HH0.out.lt, HY0.out.below hb13 HY0.out.lt⟩) ?_
  refine Lex.lex_do rfl ?_
  have cc := cl V13 hw13
  go_wp2_with fail
  refine cc.mono ?_
  rintro e V14 ⟨v14, rfl, hm14, hn14⟩
  have hb14 := hb13.trans (hn14.mono hb13.size)
  have hw14 := hw13.trans (hn14.mono hw13.size)
  subst hm14
  clear cc hb13 hw13 hn14
  go_wp2_with fail
  refine Lex.lexQ_normal (fun _ => ⟨HF0.out.below hb14 HF0.out.lt, HG0.out.below hb14 HG0.out.lt, HH0.out.below hb14 HH0.out.lt, HY0.out.below hb14 HY0.out.lt⟩) ?_
  refine Lex.lex_do rfl ?_
  go_wp2_with fail
  refine Lex.lexQ_normal (fun _ => ⟨HF0.out.below hb14 HF0.out.lt, HG0.out.below hb14 HG0.out.lt, HH0.out.below hb14 HH0.out.lt, HY0.out.below hb14 HY0.out.lt⟩) ?_
  refine Lex.lex_do rfl ?_
  go_wp2_with fail
  refine Lex.lexQ_normal (fun _ => ⟨HF0.out.below hb14 HF0.out.lt, HG0.out.below hb14 HG0.out.lt, HH0.out.below hb14 HH0.out.lt, HY0.out.below hb14 HY0.out.lt⟩) ?_
  refine Lex.lex_nil ?_
  have HF1 := Lib.hid (HF0.out.below hb14 HF0.out.lt)
  have HG1 := Lib.hid (HG0.out.below hb14 HG0.out.lt)
  have HH1 := Lib.hid (HH0.out.below hb14 HH0.out.lt)
  have HY1 := Lib.hid (HY0.out.below hb14 HY0.out.lt)
  have HB1 := Lib.hid hw14
  clear hb14 hw14 HF0 HG0 HH0 HY0 HB0
  go_upto_region 6 with fail
  refine Lex.wp_region_lex (fun w' => Two w' w.heap.size (.int .i64 p) (.int .i64 q) 23 ∧ Two w' (w.heap.size + 1) (.int .i64 r) (.int .i64 s) 23 ∧ Two w' (w.heap.size + 1 + 1) (.int .i64 a) (.int .i64 b) 23 ∧ Two w' YB (.int .i64 y1) (.int .i64 y2) 23) (fun _ => true)
    [(0, true), (1, false), (2, false), (3, false), (4, true), (6, true), (5, false), (7, false), (8, false), (9, false), (10, false), (11, false), (12, true), (14, true), (13, false), (15, false), (16, false), (17, false), (18, false)]
    (by kernel_rfl) (by kernel_rfl) (by kernel_rfl) (by kernel_rfl) ⟨HF1.out, HG1.out, HH1.out, HY1.out⟩ ?_
  have hb15 : Below V14.heap.size V14 V14.drew := ⟨rfl, rfl, rfl, Nat.le_refl _, fun _ _ => rfl⟩
  have hw15 : Below w.heap.size w V14.drew := ⟨HB1.out.os, HB1.out.tape, HB1.out.output, HB1.out.size, HB1.out.block⟩
  generalize hV0 : V14.drew = V15 at *
  clear hV0
  refine Lex.lex_take (v := ?_) rfl rfl (by rfl) (fun _ hS => ?_) ?_; rotate_left 1; (focus (have g0_0 := hS.1.cell0; have g0_1 := hS.1.cell1; have g1_0 := hS.2.1.cell0; have g1_1 := hS.2.1.cell1; have g2_0 := hS.2.2.1.cell0; have g2_1 := hS.2.2.1.cell1; have g3_0 := hS.2.2.2.cell0; have g3_1 := hS.2.2.2.cell1; clear hS; go_simp; with_reducible rfl)); simp only [List.setIfInBounds_toArray, List.set_cons_zero, List.set_cons_succ]
  refine Lex.lex_do rfl ?_
  have cc := cvX V15 hw15
  go_wp2_with fail
  refine cc.mono ?_
  rintro e V16 ⟨v16, rfl, hm16, hn16⟩
  have hb16 := hb15.trans (hn16.mono hb15.size)
  have hw16 := hw15.trans (hn16.mono hw15.size)
  subst hm16
  clear cc hb15 hw15 hn16
  go_wp2_with fail
  refine Lex.lexQ_normal (fun _ => ⟨HF1.out.below hb16 HF1.out.lt, HG1.out.below hb16 HG1.out.lt, HH1.out.below hb16 HH1.out.lt, HY1.out.below hb16 HY1.out.lt⟩) ?_
  refine Lex.lex_do rfl ?_
  go_wp2_with fail
  refine Lex.lexQ_normal (fun _ => ⟨HF1.out.below hb16 HF1.out.lt, HG1.out.below hb16 HG1.out.lt, HH1.out.below hb16 HH1.out.lt, HY1.out.below hb16 HY1.out.lt⟩) ?_
  refine Lex.lex_do rfl ?_
  go_wp2_with fail
  refine Lex.lexQ_normal (fun _ => ⟨HF1.out.below hb16 HF1.out.lt, HG1.out.below hb16 HG1.out.lt, HH1.out.below hb16 HH1.out.lt, HY1.out.below hb16 HY1.out.lt⟩) ?_
  refine Lex.lex_take (v := ?_) rfl rfl (by rfl) (fun _ hS => ?_) ?_; rotate_left 1; (focus (have g0_0 := hS.1.cell0; have g0_1 := hS.1.cell1; have g1_0 := hS.2.1.cell0; have g1_1 := hS.2.1.cell1; have g2_0 := hS.2.2.1.cell0; have g2_1 := hS.2.2.1.cell1; have g3_0 := hS.2.2.2.cell0; have g3_1 := hS.2.2.2.cell1; clear hS; go_simp; with_reducible rfl)); simp only [List.setIfInBounds_toArray, List.set_cons_zero, List.set_cons_succ]
  refine Lex.lex_take (v := ?_) rfl rfl (by rfl) (fun _ hS => ?_) ?_; rotate_left 1; (focus (have g0_0 := hS.1.cell0; have g0_1 := hS.1.cell1; have g1_0 := hS.2.1.cell0; have g1_1 := hS.2.1.cell1; have g2_0 := hS.2.2.1.cell0; have g2_1 := hS.2.2.1.cell1; have g3_0 := hS.2.2.2.cell0; have g3_1 := hS.2.2.2.cell1; clear hS; go_simp; with_reducible rfl)); simp only [List.setIfInBounds_toArray, List.set_cons_zero, List.set_cons_succ]
  refine Lex.lex_do rfl ?_
  have cc := coP V16 hw16
  go_wp2_with fail
  refine cc.mono ?_
  rintro e V17 ⟨v17, rfl, hm17, hn17⟩
  have hb17 := hb16.trans (hn17.mono hb16.size)
  have hw17 := hw16.trans (hn17.mono hw16.size)
  clear cc hb16 hw16 hn17
  go_wp2_with fail
  refine Lex.lexQ_normal (fun _ => ⟨HF1.out.below hb17 HF1.out.lt, HG1.out.below hb17 HG1.out.lt, HH1.out.below hb17 HH1.out.lt, HY1.out.below hb17 HY1.out.lt⟩) ?_
  refine Lex.lex_do rfl ?_
  have cc := coX V17 hw17
  go_wp2_with fail
  refine cc.mono ?_
  rintro e V18 ⟨v18, rfl, hm18, hn18⟩
  have hb18 := hb17.trans (hn18.mono hb17.size)
  have hw18 := hw17.trans (hn18.mono hw17.size)
  have hm17 := hm17.below hn18
  clear cc hb17 hw17 hn18
  go_wp2_with fail
  refine Lex.lexQ_normal (fun _ => ⟨HF1.out.below hb18 HF1.out.lt, HG1.out.below hb18 HG1.out.lt, HH1.out.below hb18 HH1.out.lt, HY1.out.below hb18 HY1.out.lt⟩) ?_
  refine Lex.lex_do rfl ?_
  have cc := ccPX V18 hw18 _ _ hm17 hm18
  go_wp2_with fail
  refine cc.mono ?_
  rintro e V19 ⟨v19, rfl, hm19, hn19⟩
  have hb19 := hb18.trans (hn19.mono hb18.size)
  have hw19 := hw18.trans (hn19.mono hw18.size)
  clear hm17 hm18
  subst hm19
  clear cc hb18 hw18 hn19
  go_wp2_with fail
  refine Lex.lexQ_normal (fun _ => ⟨HF1.out.below hb19 HF1.out.lt, HG1.out.below hb19 HG1.out.lt, HH1.out.below hb19 HH1.out.lt, HY1.out.below hb19 HY1.out.lt⟩) ?_
  refine Lex.lex_do rfl ?_
  go_wp2_with fail
  refine Lex.lexQ_normal (fun _ => ⟨HF1.out.below hb19 HF1.out.lt, HG1.out.below hb19 HG1.out.lt, HH1.out.below hb19 HH1.out.lt, HY1.out.below hb19 HY1.out.lt⟩) ?_
  refine Lex.lex_do rfl ?_
  go_wp2_with fail
  refine Lex.lexQ_normal (fun _ => ⟨HF1.out.below hb19 HF1.out.lt, HG1.out.below hb19 HG1.out.lt, HH1.out.below hb19 HH1.out.lt, HY1.out.below hb19 HY1.out.lt⟩) ?_
  refine Lex.lex_do rfl ?_
  go_wp2_with fail
  refine Lex.lexQ_normal (fun _ => ⟨HF1.out.below hb19 HF1.out.lt, HG1.out.below hb19 HG1.out.lt, HH1.out.below hb19 HH1.out.lt, HY1.out.below hb19 HY1.out.lt⟩) ?_
  refine Lex.lex_skip rfl rfl (by rfl) ?_; simp only [List.setIfInBounds_toArray, List.set_cons_zero, List.set_cons_succ]
  refine Lex.lex_skip rfl rfl (by rfl) ?_; simp only [List.setIfInBounds_toArray, List.set_cons_zero, List.set_cons_succ]
  refine Lex.lex_do rfl ?_
  go_wp2_with fail
  refine Lex.lexQ_normal (fun _ => ⟨HF1.out.below hb19 HF1.out.lt, HG1.out.below hb19 HG1.out.lt, HH1.out.below hb19 HH1.out.lt, HY1.out.below hb19 HY1.out.lt⟩) ?_
  refine Lex.lex_do rfl ?_
  go_wp2_with fail
  refine Lex.lexQ_normal (fun _ => ⟨HF1.out.below hb19 HF1.out.lt, HG1.out.below hb19 HG1.out.lt, HH1.out.below hb19 HH1.out.lt, HY1.out.below hb19 HY1.out.lt⟩) ?_
  refine Lex.lex_do rfl ?_
  go_wp2_with fail
  refine Lex.lexQ_normal (fun _ => ⟨HF1.out.below hb19 HF1.out.lt, HG1.out.below hb19 HG1.out.lt, HH1.out.below hb19 HH1.out.lt, HY1.out.below hb19 HY1.out.lt⟩) ?_
  refine Lex.lex_do rfl ?_
  go_wp2_with fail
  refine Lex.lexQ_normal (fun _ => ⟨HF1.out.below hb19 HF1.out.lt, HG1.out.below hb19 HG1.out.lt, HH1.out.below hb19 HH1.out.lt, HY1.out.below hb19 HY1.out.lt⟩) ?_
  refine Lex.lex_do rfl ?_
  go_wp2_with fail
  refine Lex.lexQ_normal (fun _ => ⟨HF1.out.below hb19 HF1.out.lt, HG1.out.below hb19 HG1.out.lt, HH1.out.below hb19 HH1.out.lt, HY1.out.below hb19 HY1.out.lt⟩) ?_
  refine Lex.lex_nil ?_
  have HF2 := Lib.hid (HF1.out.below hb19 HF1.out.lt)
  have HG2 := Lib.hid (HG1.out.below hb19 HG1.out.lt)
  have HH2 := Lib.hid (HH1.out.below hb19 HH1.out.lt)
  have HY2 := Lib.hid (HY1.out.below hb19 HY1.out.lt)
  have HB2 := Lib.hid hw19
  clear hb19 hw19 HF1 HG1 HH1 HY1 HB1
  go_wp2
  go_ret
  exact ⟨rfl, HB2.out⟩

end Go.Proofs.Ytklngjjokbhfpaa
