/- The walk of GearBetweens (printed by gencp.py). -/
import Derived.Test.YtklngjjokbhfpaaCo
namespace Go.Proofs.Ytklngjjokbhfpaa
open Go.RowKit

set_option maxRecDepth 100000 in
set_option maxHeartbeats 3200000 in
theorem betweens_a (p q r s : Int) (w : World) (i1 : I64 p) (i2 : I64 q) (i3 : I64 r) (i4 : I64 s) (h : ¬ FOk (p, q)) :
    Calls Try.prog 3 #[.agg #[.int .i64 p, .int .i64 q], .agg #[.int .i64 r, .int .i64 s]] w (RetV (.bool true) w) := by
  have cb := between_w i1 i2 i3 i4 (.tuple #[.agg #[.int .i64 0, .int .i64 0], .int .i64 2]) (by unfold betwR; rw [if_pos (fun g => h g.1)]) (w := w)
  have cv1 := valid_w p q false (decide_eq_false h) (w := w)
  have ci := is_w 0 0 2 (w := w)
  clear h i1 i2 i3 i4
  have cl := lives_w (w := w)
  obtain ⟨W3, hW3⟩ : ∃ W3, W3 = ((w.alloc (.cells #[.int .i64 p, .int .i64 q] 23)).alloc (.cells #[.int .i64 r, .int .i64 s] 23)) := ⟨_, rfl⟩
  have hB : Below w.heap.size w W3 := by rw [hW3]; exact (((Below.refl _ _).alloc (Nat.le_refl _) _).alloc (by simp; try omega) _)
  have HBW := Lib.hid hB
  have HF0 := Lib.hid (show Two W3 (w.heap.size) (.int .i64 p) (.int .i64 q) 23 by rw [hW3]; exact (((Two.newAt _ _ _ _ _ (by simp))).alloc _))
  have HG0 := Lib.hid (show Two W3 (w.heap.size + 1) (.int .i64 r) (.int .i64 s) 23 by rw [hW3]; exact (Two.newAt _ _ _ _ _ (by simp)))
  clear hB
  go_enter Try.func3, Try.ntmps3
  go_upto_region 1 with fail
  rw [← hW3]
  clear hW3
  have k0_0 := HF0.out.cell0
  have k0_1 := HF0.out.cell1
  have k1_0 := HG0.out.cell0
  have k1_1 := HG0.out.cell1
  have hb0 := Below.refl W3.heap.size W3
  have hw0 := HBW.out
  have cc := cb W3 hw0
  go_wp2_with fail
  refine cc.mono ?_
  rintro e V1 ⟨v1, rfl, hm1, hn1⟩
  have hb1 := hb0.trans (hn1.mono hb0.size)
  have hw1 := hw0.trans (hn1.mono hw0.size)
  subst hm1
  clear cc hb0 hw0 hn1
  clear k0_0 k0_1 k1_0 k1_1
  have k0_0 := (HF0.out.below hb1 HF0.out.lt).cell0
  have k0_1 := (HF0.out.below hb1 HF0.out.lt).cell1
  have k1_0 := (HG0.out.below hb1 HG0.out.lt).cell0
  have k1_1 := (HG0.out.below hb1 HG0.out.lt).cell1
  clear k0_0 k0_1 k1_0 k1_1
  obtain ⟨YB, hYB⟩ : ∃ YB, YB = V1.heap.size := ⟨_, rfl⟩
  obtain ⟨U, hU⟩ : ∃ U, U = V1.alloc (.cells #[.int .i64 0, .int .i64 0] 23) := ⟨_, rfl⟩
  have hbU : Below W3.heap.size W3 U := by rw [hU]; exact hb1.alloc hb1.size _
  have HF := Lib.hid (HF0.out.below hbU HF0.out.lt)
  have HG := Lib.hid (HG0.out.below hbU HG0.out.lt)
  have HY := Lib.hid (show Two U YB (.int .i64 0) (.int .i64 0) 23 by rw [hU, hYB]; exact Two.newAt _ _ _ _ _ rfl)
  have HBU := Lib.hid (HBW.out.trans (hbU.mono HBW.out.size))
  clear hb1 hw1 hbU HF0 HG0 HBW cb
  go_upto_region 2 with fail
  rw [← hYB, ← hU]
  clear hU hYB
  have k0_0 := HF.out.cell0
  have k0_1 := HF.out.cell1
  have k1_0 := HG.out.cell0
  have k1_1 := HG.out.cell1
  have k2_0 := HY.out.cell0
  have k2_1 := HY.out.cell1
  have hb10 := Below.refl U.heap.size U
  have hw10 := HBU.out
  have cc := cv1 U hw10
  go_wp2_with fail
  refine cc.mono ?_
  rintro e V11 ⟨v11, rfl, hm11, hn11⟩
  have hb11 := hb10.trans (hn11.mono hb10.size)
  have hw11 := hw10.trans (hn11.mono hw10.size)
  subst hm11
  clear cc hb10 hw10 hn11
  clear k0_0 k0_1 k1_0 k1_1 k2_0 k2_1
  have k0_0 := (HF.out.below hb11 HF.out.lt).cell0
  have k0_1 := (HF.out.below hb11 HF.out.lt).cell1
  have k1_0 := (HG.out.below hb11 HG.out.lt).cell0
  have k1_1 := (HG.out.below hb11 HG.out.lt).cell1
  have k2_0 := (HY.out.below hb11 HY.out.lt).cell0
  have k2_1 := (HY.out.below hb11 HY.out.lt).cell1
  have HF0 := Lib.hid (HF.out.below hb11 HF.out.lt)
  have HG0 := Lib.hid (HG.out.below hb11 HG.out.lt)
  have HY0 := Lib.hid (HY.out.below hb11 HY.out.lt)
  have HB0 := Lib.hid hw11
  clear hb11 hw11 HF HG HY HBU
  clear k0_0 k0_1 k1_0 k1_1 k2_0 k2_1
  have k0_0 := HF0.out.cell0
  have k0_1 := HF0.out.cell1
  have k1_0 := HG0.out.cell0
  have k1_1 := HG0.out.cell1
  have k2_0 := HY0.out.cell0
  have k2_1 := HY0.out.cell1
  have hb12 := Below.refl V11.heap.size V11
  have hw12 := HB0.out
  have cc := ci V11 hw12
  go_wp2_with fail
  refine cc.mono ?_
  rintro e V13 ⟨v13, rfl, hm13, hn13⟩
  have hb13 := hb12.trans (hn13.mono hb12.size)
  have hw13 := hw12.trans (hn13.mono hw12.size)
  subst hm13
  clear cc hb12 hw12 hn13
  clear k0_0 k0_1 k1_0 k1_1 k2_0 k2_1
  have k0_0 := (HF0.out.below hb13 HF0.out.lt).cell0
  have k0_1 := (HF0.out.below hb13 HF0.out.lt).cell1
  have k1_0 := (HG0.out.below hb13 HG0.out.lt).cell0
  have k1_1 := (HG0.out.below hb13 HG0.out.lt).cell1
  have k2_0 := (HY0.out.below hb13 HY0.out.lt).cell0
  have k2_1 := (HY0.out.below hb13 HY0.out.lt).cell1
  have cc := cl V13 hw13
  go_wp2_with fail
  refine cc.mono ?_
  rintro e V14 ⟨v14, rfl, hm14, hn14⟩
  have hb14 := hb13.trans (hn14.mono hb13.size)
  have hw14 := hw13.trans (hn14.mono hw13.size)
  subst hm14
  clear cc hb13 hw13 hn14
  clear k0_0 k0_1 k1_0 k1_1 k2_0 k2_1
  have k0_0 := (HF0.out.below hb14 HF0.out.lt).cell0
  have k0_1 := (HF0.out.below hb14 HF0.out.lt).cell1
  have k1_0 := (HG0.out.below hb14 HG0.out.lt).cell0
  have k1_1 := (HG0.out.below hb14 HG0.out.lt).cell1
  have k2_0 := (HY0.out.below hb14 HY0.out.lt).cell0
  have k2_1 := (HY0.out.below hb14 HY0.out.lt).cell1
  have HE := Lib.hid hw14
  clear hb14 hw14
  go_wp2
  go_ret
  exact ⟨rfl, HE.out⟩

set_option maxRecDepth 100000 in
set_option maxHeartbeats 3200000 in
theorem betweens_b (p q r s : Int) (w : World) (i1 : I64 p) (i2 : I64 q) (i3 : I64 r) (i4 : I64 s) (h1 : FOk (p, q)) (h : ¬ FOk (r, s)) :
    Calls Try.prog 3 #[.agg #[.int .i64 p, .int .i64 q], .agg #[.int .i64 r, .int .i64 s]] w (RetV (.bool true) w) := by
  have cb := between_w i1 i2 i3 i4 (.tuple #[.agg #[.int .i64 0, .int .i64 0], .int .i64 2]) (by unfold betwR; rw [if_pos (fun g => h g.2)]) (w := w)
  have cv1 := valid_w p q true (decide_eq_true h1) (w := w)
  have cv2 := valid_w r s false (decide_eq_false h) (w := w)
  have ci := is_w 0 0 2 (w := w)
  clear h h1 i1 i2 i3 i4
  have cl := lives_w (w := w)
  obtain ⟨W3, hW3⟩ : ∃ W3, W3 = ((w.alloc (.cells #[.int .i64 p, .int .i64 q] 23)).alloc (.cells #[.int .i64 r, .int .i64 s] 23)) := ⟨_, rfl⟩
  have hB : Below w.heap.size w W3 := by rw [hW3]; exact (((Below.refl _ _).alloc (Nat.le_refl _) _).alloc (by simp; try omega) _)
  have HBW := Lib.hid hB
  have HF0 := Lib.hid (show Two W3 (w.heap.size) (.int .i64 p) (.int .i64 q) 23 by rw [hW3]; exact (((Two.newAt _ _ _ _ _ (by simp))).alloc _))
  have HG0 := Lib.hid (show Two W3 (w.heap.size + 1) (.int .i64 r) (.int .i64 s) 23 by rw [hW3]; exact (Two.newAt _ _ _ _ _ (by simp)))
  clear hB
  go_enter Try.func3, Try.ntmps3
  go_upto_region 1 with fail
  rw [← hW3]
  clear hW3
  have k0_0 := HF0.out.cell0
  have k0_1 := HF0.out.cell1
  have k1_0 := HG0.out.cell0
  have k1_1 := HG0.out.cell1
  have hb0 := Below.refl W3.heap.size W3
  have hw0 := HBW.out
  have cc := cb W3 hw0
  go_wp2_with fail
  refine cc.mono ?_
  rintro e V1 ⟨v1, rfl, hm1, hn1⟩
  have hb1 := hb0.trans (hn1.mono hb0.size)
  have hw1 := hw0.trans (hn1.mono hw0.size)
  subst hm1
  clear cc hb0 hw0 hn1
  clear k0_0 k0_1 k1_0 k1_1
  have k0_0 := (HF0.out.below hb1 HF0.out.lt).cell0
  have k0_1 := (HF0.out.below hb1 HF0.out.lt).cell1
  have k1_0 := (HG0.out.below hb1 HG0.out.lt).cell0
  have k1_1 := (HG0.out.below hb1 HG0.out.lt).cell1
  clear k0_0 k0_1 k1_0 k1_1
  obtain ⟨YB, hYB⟩ : ∃ YB, YB = V1.heap.size := ⟨_, rfl⟩
  obtain ⟨U, hU⟩ : ∃ U, U = V1.alloc (.cells #[.int .i64 0, .int .i64 0] 23) := ⟨_, rfl⟩
  have hbU : Below W3.heap.size W3 U := by rw [hU]; exact hb1.alloc hb1.size _
  have HF := Lib.hid (HF0.out.below hbU HF0.out.lt)
  have HG := Lib.hid (HG0.out.below hbU HG0.out.lt)
  have HY := Lib.hid (show Two U YB (.int .i64 0) (.int .i64 0) 23 by rw [hU, hYB]; exact Two.newAt _ _ _ _ _ rfl)
  have HBU := Lib.hid (HBW.out.trans (hbU.mono HBW.out.size))
  clear hb1 hw1 hbU HF0 HG0 HBW cb
  go_upto_region 2 with fail
  rw [← hYB, ← hU]
  clear hU hYB
  have k0_0 := HF.out.cell0
  have k0_1 := HF.out.cell1
  have k1_0 := HG.out.cell0
  have k1_1 := HG.out.cell1
  have k2_0 := HY.out.cell0
  have k2_1 := HY.out.cell1
  have hb10 := Below.refl U.heap.size U
  have hw10 := HBU.out
  have cc := cv1 U hw10
  go_wp2_with fail
  refine cc.mono ?_
  rintro e V11 ⟨v11, rfl, hm11, hn11⟩
  have hb11 := hb10.trans (hn11.mono hb10.size)
  have hw11 := hw10.trans (hn11.mono hw10.size)
  subst hm11
  clear cc hb10 hw10 hn11
  clear k0_0 k0_1 k1_0 k1_1 k2_0 k2_1
  have k0_0 := (HF.out.below hb11 HF.out.lt).cell0
  have k0_1 := (HF.out.below hb11 HF.out.lt).cell1
  have k1_0 := (HG.out.below hb11 HG.out.lt).cell0
  have k1_1 := (HG.out.below hb11 HG.out.lt).cell1
  have k2_0 := (HY.out.below hb11 HY.out.lt).cell0
  have k2_1 := (HY.out.below hb11 HY.out.lt).cell1
  have cc := cv2 V11 hw11
  go_wp2_with fail
  refine cc.mono ?_
  rintro e V12 ⟨v12, rfl, hm12, hn12⟩
  have hb12 := hb11.trans (hn12.mono hb11.size)
  have hw12 := hw11.trans (hn12.mono hw11.size)
  subst hm12
  clear cc hb11 hw11 hn12
  clear k0_0 k0_1 k1_0 k1_1 k2_0 k2_1
  have k0_0 := (HF.out.below hb12 HF.out.lt).cell0
  have k0_1 := (HF.out.below hb12 HF.out.lt).cell1
  have k1_0 := (HG.out.below hb12 HG.out.lt).cell0
  have k1_1 := (HG.out.below hb12 HG.out.lt).cell1
  have k2_0 := (HY.out.below hb12 HY.out.lt).cell0
  have k2_1 := (HY.out.below hb12 HY.out.lt).cell1
  have HF0 := Lib.hid (HF.out.below hb12 HF.out.lt)
  have HG0 := Lib.hid (HG.out.below hb12 HG.out.lt)
  have HY0 := Lib.hid (HY.out.below hb12 HY.out.lt)
  have HB0 := Lib.hid hw12
  clear hb12 hw12 HF HG HY HBU
  clear k0_0 k0_1 k1_0 k1_1 k2_0 k2_1
  have k0_0 := HF0.out.cell0
  have k0_1 := HF0.out.cell1
  have k1_0 := HG0.out.cell0
  have k1_1 := HG0.out.cell1
  have k2_0 := HY0.out.cell0
  have k2_1 := HY0.out.cell1
  have hb13 := Below.refl V12.heap.size V12
  have hw13 := HB0.out
  have cc := ci V12 hw13
  go_wp2_with fail
  refine cc.mono ?_
  rintro e V14 ⟨v14, rfl, hm14, hn14⟩
  have hb14 := hb13.trans (hn14.mono hb13.size)
  have hw14 := hw13.trans (hn14.mono hw13.size)
  subst hm14
  clear cc hb13 hw13 hn14
  clear k0_0 k0_1 k1_0 k1_1 k2_0 k2_1
  have k0_0 := (HF0.out.below hb14 HF0.out.lt).cell0
  have k0_1 := (HF0.out.below hb14 HF0.out.lt).cell1
  have k1_0 := (HG0.out.below hb14 HG0.out.lt).cell0
  have k1_1 := (HG0.out.below hb14 HG0.out.lt).cell1
  have k2_0 := (HY0.out.below hb14 HY0.out.lt).cell0
  have k2_1 := (HY0.out.below hb14 HY0.out.lt).cell1
  have cc := cl V14 hw14
  go_wp2_with fail
  refine cc.mono ?_
  rintro e V15 ⟨v15, rfl, hm15, hn15⟩
  have hb15 := hb14.trans (hn15.mono hb14.size)
  have hw15 := hw14.trans (hn15.mono hw14.size)
  subst hm15
  clear cc hb14 hw14 hn15
  clear k0_0 k0_1 k1_0 k1_1 k2_0 k2_1
  have k0_0 := (HF0.out.below hb15 HF0.out.lt).cell0
  have k0_1 := (HF0.out.below hb15 HF0.out.lt).cell1
  have k1_0 := (HG0.out.below hb15 HG0.out.lt).cell0
  have k1_1 := (HG0.out.below hb15 HG0.out.lt).cell1
  have k2_0 := (HY0.out.below hb15 HY0.out.lt).cell0
  have k2_1 := (HY0.out.below hb15 HY0.out.lt).cell1
  have HE := Lib.hid hw15
  clear hb15 hw15
  go_wp2
  go_ret
  exact ⟨rfl, HE.out⟩

set_option maxRecDepth 100000 in
set_option maxHeartbeats 3200000 in
theorem betweens_c (p q r s : Int) (w : World) (i1 : I64 p) (i2 : I64 q) (i3 : I64 r) (i4 : I64 s) (h1 : FOk (p, q)) (h2 : FOk (r, s)) (h : 0 < p * s - r * q) :
    Calls Try.prog 3 #[.agg #[.int .i64 p, .int .i64 q], .agg #[.int .i64 r, .int .i64 s]] w (RetV (.bool true) w) := by
  have cb := between_w i1 i2 i3 i4 (.tuple #[.agg #[.int .i64 0, .int .i64 0], .int .i64 1]) (by unfold betwR; rw [if_neg (fun g => g ⟨h1, h2⟩), if_pos h]) (w := w)
  have cv1 := valid_w p q true (decide_eq_true h1) (w := w)
  have cv2 := valid_w r s true (decide_eq_true h2) (w := w)
  have coP := of_w h1 (w := w)
  have coR := of_w h2 (w := w)
  have ccPR := cmp_w p q r s (w := w)
  rw [sgn_pos h] at ccPR
  have ci := is_w 0 0 1 (w := w)
  clear h h1 h2 i1 i2 i3 i4
  have cl := lives_w (w := w)
  obtain ⟨W3, hW3⟩ : ∃ W3, W3 = ((w.alloc (.cells #[.int .i64 p, .int .i64 q] 23)).alloc (.cells #[.int .i64 r, .int .i64 s] 23)) := ⟨_, rfl⟩
  have hB : Below w.heap.size w W3 := by rw [hW3]; exact (((Below.refl _ _).alloc (Nat.le_refl _) _).alloc (by simp; try omega) _)
  have HBW := Lib.hid hB
  have HF0 := Lib.hid (show Two W3 (w.heap.size) (.int .i64 p) (.int .i64 q) 23 by rw [hW3]; exact (((Two.newAt _ _ _ _ _ (by simp))).alloc _))
  have HG0 := Lib.hid (show Two W3 (w.heap.size + 1) (.int .i64 r) (.int .i64 s) 23 by rw [hW3]; exact (Two.newAt _ _ _ _ _ (by simp)))
  clear hB
  go_enter Try.func3, Try.ntmps3
  go_upto_region 1 with fail
  rw [← hW3]
  clear hW3
  have k0_0 := HF0.out.cell0
  have k0_1 := HF0.out.cell1
  have k1_0 := HG0.out.cell0
  have k1_1 := HG0.out.cell1
  have hb0 := Below.refl W3.heap.size W3
  have hw0 := HBW.out
  have cc := cb W3 hw0
  go_wp2_with fail
  refine cc.mono ?_
  rintro e V1 ⟨v1, rfl, hm1, hn1⟩
  have hb1 := hb0.trans (hn1.mono hb0.size)
  have hw1 := hw0.trans (hn1.mono hw0.size)
  subst hm1
  clear cc hb0 hw0 hn1
  clear k0_0 k0_1 k1_0 k1_1
  have k0_0 := (HF0.out.below hb1 HF0.out.lt).cell0
  have k0_1 := (HF0.out.below hb1 HF0.out.lt).cell1
  have k1_0 := (HG0.out.below hb1 HG0.out.lt).cell0
  have k1_1 := (HG0.out.below hb1 HG0.out.lt).cell1
  clear k0_0 k0_1 k1_0 k1_1
  obtain ⟨YB, hYB⟩ : ∃ YB, YB = V1.heap.size := ⟨_, rfl⟩
  obtain ⟨U, hU⟩ : ∃ U, U = V1.alloc (.cells #[.int .i64 0, .int .i64 0] 23) := ⟨_, rfl⟩
  have hbU : Below W3.heap.size W3 U := by rw [hU]; exact hb1.alloc hb1.size _
  have HF := Lib.hid (HF0.out.below hbU HF0.out.lt)
  have HG := Lib.hid (HG0.out.below hbU HG0.out.lt)
  have HY := Lib.hid (show Two U YB (.int .i64 0) (.int .i64 0) 23 by rw [hU, hYB]; exact Two.newAt _ _ _ _ _ rfl)
  have HBU := Lib.hid (HBW.out.trans (hbU.mono HBW.out.size))
  clear hb1 hw1 hbU HF0 HG0 HBW cb
  go_upto_region 2 with fail
  rw [← hYB, ← hU]
  clear hU hYB
  have k0_0 := HF.out.cell0
  have k0_1 := HF.out.cell1
  have k1_0 := HG.out.cell0
  have k1_1 := HG.out.cell1
  have k2_0 := HY.out.cell0
  have k2_1 := HY.out.cell1
  have hb10 := Below.refl U.heap.size U
  have hw10 := HBU.out
  have cc := cv1 U hw10
  go_wp2_with fail
  refine cc.mono ?_
  rintro e V11 ⟨v11, rfl, hm11, hn11⟩
  have hb11 := hb10.trans (hn11.mono hb10.size)
  have hw11 := hw10.trans (hn11.mono hw10.size)
  subst hm11
  clear cc hb10 hw10 hn11
  clear k0_0 k0_1 k1_0 k1_1 k2_0 k2_1
  have k0_0 := (HF.out.below hb11 HF.out.lt).cell0
  have k0_1 := (HF.out.below hb11 HF.out.lt).cell1
  have k1_0 := (HG.out.below hb11 HG.out.lt).cell0
  have k1_1 := (HG.out.below hb11 HG.out.lt).cell1
  have k2_0 := (HY.out.below hb11 HY.out.lt).cell0
  have k2_1 := (HY.out.below hb11 HY.out.lt).cell1
  have cc := cv2 V11 hw11
  go_wp2_with fail
  refine cc.mono ?_
  rintro e V12 ⟨v12, rfl, hm12, hn12⟩
  have hb12 := hb11.trans (hn12.mono hb11.size)
  have hw12 := hw11.trans (hn12.mono hw11.size)
  subst hm12
  clear cc hb11 hw11 hn12
  clear k0_0 k0_1 k1_0 k1_1 k2_0 k2_1
  have k0_0 := (HF.out.below hb12 HF.out.lt).cell0
  have k0_1 := (HF.out.below hb12 HF.out.lt).cell1
  have k1_0 := (HG.out.below hb12 HG.out.lt).cell0
  have k1_1 := (HG.out.below hb12 HG.out.lt).cell1
  have k2_0 := (HY.out.below hb12 HY.out.lt).cell0
  have k2_1 := (HY.out.below hb12 HY.out.lt).cell1
  have HF0 := Lib.hid (HF.out.below hb12 HF.out.lt)
  have HG0 := Lib.hid (HG.out.below hb12 HG.out.lt)
  have HY0 := Lib.hid (HY.out.below hb12 HY.out.lt)
  have HB0 := Lib.hid hw12
  clear hb12 hw12 HF HG HY HBU
  clear k0_0 k0_1 k1_0 k1_1 k2_0 k2_1
  go_upto_region 4 with fail
  refine Lex.wp_region_lex (fun w' => Two w' w.heap.size (.int .i64 p) (.int .i64 q) 23 ∧ Two w' (w.heap.size + 1) (.int .i64 r) (.int .i64 s) 23 ∧ Two w' YB (.int .i64 0) (.int .i64 0) 23) (fun _ => true)
    [(0, true), (2, true), (1, false), (3, false), (4, false), (5, false)]
    (by kernel_rfl) (by kernel_rfl) (by kernel_rfl) (by kernel_rfl) ⟨HF0.out, HG0.out, HY0.out⟩ ?_
  have hb13 : Below V12.heap.size V12 V12.drew := ⟨rfl, rfl, rfl, Nat.le_refl _, fun _ _ => rfl⟩
  have hw13 : Below w.heap.size w V12.drew := ⟨HB0.out.os, HB0.out.tape, HB0.out.output, HB0.out.size, HB0.out.block⟩
  generalize hV0 : V12.drew = V13 at *
  clear hV0
  refine Lex.lex_take (v := ?_) rfl rfl (by rfl) (fun _ hS => ?_) ?_; rotate_left 1; (focus (have g0_0 := hS.1.cell0; have g0_1 := hS.1.cell1; have g1_0 := hS.2.1.cell0; have g1_1 := hS.2.1.cell1; have g2_0 := hS.2.2.cell0; have g2_1 := hS.2.2.cell1; clear hS; go_simp; with_reducible rfl)); simp only [List.setIfInBounds_toArray, List.set_cons_zero, List.set_cons_succ]
  refine Lex.lex_take (v := ?_) rfl rfl (by rfl) (fun _ hS => ?_) ?_; rotate_left 1; (focus (have g0_0 := hS.1.cell0; have g0_1 := hS.1.cell1; have g1_0 := hS.2.1.cell0; have g1_1 := hS.2.1.cell1; have g2_0 := hS.2.2.cell0; have g2_1 := hS.2.2.cell1; clear hS; go_simp; with_reducible rfl)); simp only [List.setIfInBounds_toArray, List.set_cons_zero, List.set_cons_succ]
  refine Lex.lex_do rfl ?_
  have cc := coP V13 hw13
  go_wp2_with fail
  refine cc.mono ?_
  rintro e V14 ⟨v14, rfl, hm14, hn14⟩
  have hb14 := hb13.trans (hn14.mono hb13.size)
  have hw14 := hw13.trans (hn14.mono hw13.size)
  clear cc hb13 hw13 hn14
  go_wp2_with fail
  refine Lex.lexQ_normal (fun _ => ⟨HF0.out.below hb14 HF0.out.lt, HG0.out.below hb14 HG0.out.lt, HY0.out.below hb14 HY0.out.lt⟩) ?_
  refine Lex.lex_do rfl ?_
  have cc := coR V14 hw14
  go_wp2_with fail
  refine cc.mono ?_
  rintro e V15 ⟨v15, rfl, hm15, hn15⟩
  have hb15 := hb14.trans (hn15.mono hb14.size)
  have hw15 := hw14.trans (hn15.mono hw14.size)
  have hm14 := hm14.below hn15
  clear cc hb14 hw14 hn15
  go_wp2_with fail
  refine Lex.lexQ_normal (fun _ => ⟨HF0.out.below hb15 HF0.out.lt, HG0.out.below hb15 HG0.out.lt, HY0.out.below hb15 HY0.out.lt⟩) ?_
  refine Lex.lex_do rfl ?_
  have cc := ccPR V15 hw15 _ _ hm14 hm15
  go_wp2_with fail
  refine cc.mono ?_
  rintro e V16 ⟨v16, rfl, hm16, hn16⟩
  have hb16 := hb15.trans (hn16.mono hb15.size)
  have hw16 := hw15.trans (hn16.mono hw15.size)
  clear hm14 hm15
  subst hm16
  clear cc hb15 hw15 hn16
  go_wp2_with fail
  refine Lex.lexQ_normal (fun _ => ⟨HF0.out.below hb16 HF0.out.lt, HG0.out.below hb16 HG0.out.lt, HY0.out.below hb16 HY0.out.lt⟩) ?_
  refine Lex.lex_do rfl ?_
  go_wp2_with fail
  refine Lex.lexQ_normal (fun _ => ⟨HF0.out.below hb16 HF0.out.lt, HG0.out.below hb16 HG0.out.lt, HY0.out.below hb16 HY0.out.lt⟩) ?_
  refine Lex.lex_nil ?_
  have HF1 := Lib.hid (HF0.out.below hb16 HF0.out.lt)
  have HG1 := Lib.hid (HG0.out.below hb16 HG0.out.lt)
  have HY1 := Lib.hid (HY0.out.below hb16 HY0.out.lt)
  have HB1 := Lib.hid hw16
  clear hb16 hw16 HF0 HG0 HY0 HB0
  have k0_0 := HF1.out.cell0
  have k0_1 := HF1.out.cell1
  have k1_0 := HG1.out.cell0
  have k1_1 := HG1.out.cell1
  have k2_0 := HY1.out.cell0
  have k2_1 := HY1.out.cell1
  have hb17 := Below.refl V16.heap.size V16
  have hw17 := HB1.out
  have cc := ci V16 hw17
  go_wp2_with fail
  refine cc.mono ?_
  rintro e V18 ⟨v18, rfl, hm18, hn18⟩
  have hb18 := hb17.trans (hn18.mono hb17.size)
  have hw18 := hw17.trans (hn18.mono hw17.size)
  subst hm18
  clear cc hb17 hw17 hn18
  clear k0_0 k0_1 k1_0 k1_1 k2_0 k2_1
  have k0_0 := (HF1.out.below hb18 HF1.out.lt).cell0
  have k0_1 := (HF1.out.below hb18 HF1.out.lt).cell1
  have k1_0 := (HG1.out.below hb18 HG1.out.lt).cell0
  have k1_1 := (HG1.out.below hb18 HG1.out.lt).cell1
  have k2_0 := (HY1.out.below hb18 HY1.out.lt).cell0
  have k2_1 := (HY1.out.below hb18 HY1.out.lt).cell1
  have cc := cl V18 hw18
  go_wp2_with fail
  refine cc.mono ?_
  rintro e V19 ⟨v19, rfl, hm19, hn19⟩
  have hb19 := hb18.trans (hn19.mono hb18.size)
  have hw19 := hw18.trans (hn19.mono hw18.size)
  subst hm19
  clear cc hb18 hw18 hn19
  clear k0_0 k0_1 k1_0 k1_1 k2_0 k2_1
  have k0_0 := (HF1.out.below hb19 HF1.out.lt).cell0
  have k0_1 := (HF1.out.below hb19 HF1.out.lt).cell1
  have k1_0 := (HG1.out.below hb19 HG1.out.lt).cell0
  have k1_1 := (HG1.out.below hb19 HG1.out.lt).cell1
  have k2_0 := (HY1.out.below hb19 HY1.out.lt).cell0
  have k2_1 := (HY1.out.below hb19 HY1.out.lt).cell1
  have HE := Lib.hid hw19
  clear hb19 hw19
  go_wp2
  go_ret
  exact ⟨rfl, HE.out⟩

set_option maxRecDepth 100000 in
set_option maxHeartbeats 3200000 in
theorem betweens_d (p q r s : Int) (w : World) (i1 : I64 p) (i2 : I64 q) (i3 : I64 r) (i4 : I64 s) (y1 y2 : Int) (hy : betwM p q r s = (y1, y2)) (h1 : FOk (p, q)) (h2 : FOk (r, s)) (h : ¬ 0 < p * s - r * q) (h3 : y2 ≤ 200) :
    Calls Try.prog 3 #[.agg #[.int .i64 p, .int .i64 q], .agg #[.int .i64 r, .int .i64 s]] w (RetV (.bool true) w) := by
  have hb := betwM_ok h1 h2 h
  rw [hy] at hb
  have cb := between_w i1 i2 i3 i4 (.tuple #[.agg #[.int .i64 y1, .int .i64 y2], .int .i64 0]) (by unfold betwR; rw [if_neg (fun g => g ⟨h1, h2⟩), if_neg h, hy]) (w := w)
  have cv1 := valid_w p q true (decide_eq_true h1) (w := w)
  have cv2 := valid_w r s true (decide_eq_true h2) (w := w)
  have coP := of_w h1 (w := w)
  have coR := of_w h2 (w := w)
  have ccPR := cmp_w p q r s (w := w)
  have e1 := sgn_le (show p * s ≤ r * q by omega)
  generalize sgn (p * s - r * q) = g1 at *
  have d1 : decide (0 < g1) = false := decide_eq_false (by omega)
  have cB : ∀ W (_ : Below w.heap.size w W), Calls Try.prog 18 #[.agg #[.int .i64 p, .int .i64 q], .agg #[.int .i64 r, .int .i64 s], .int .i64 200] W (RetW (.tuple #[.agg #[.int .i64 y1, .int .i64 y2], .bool true]) W) := fun W _ => by
    have := rbetween_any h1 h2 hb W
    rw [if_pos h3] at this
    exact this.mono fun e w' h => RetW.of h
  have ci := is_w y1 y2 0 (w := w)
  clear h h1 h2 i1 i2 i3 i4 hb hy h3 e1
  have cl := lives_w (w := w)
  obtain ⟨W3, hW3⟩ : ∃ W3, W3 = ((w.alloc (.cells #[.int .i64 p, .int .i64 q] 23)).alloc (.cells #[.int .i64 r, .int .i64 s] 23)) := ⟨_, rfl⟩
  have hB : Below w.heap.size w W3 := by rw [hW3]; exact (((Below.refl _ _).alloc (Nat.le_refl _) _).alloc (by simp; try omega) _)
  have HBW := Lib.hid hB
  have HF0 := Lib.hid (show Two W3 (w.heap.size) (.int .i64 p) (.int .i64 q) 23 by rw [hW3]; exact (((Two.newAt _ _ _ _ _ (by simp))).alloc _))
  have HG0 := Lib.hid (show Two W3 (w.heap.size + 1) (.int .i64 r) (.int .i64 s) 23 by rw [hW3]; exact (Two.newAt _ _ _ _ _ (by simp)))
  clear hB
  go_enter Try.func3, Try.ntmps3
  go_upto_region 1 with fail
  rw [← hW3]
  clear hW3
  have k0_0 := HF0.out.cell0
  have k0_1 := HF0.out.cell1
  have k1_0 := HG0.out.cell0
  have k1_1 := HG0.out.cell1
  have hb0 := Below.refl W3.heap.size W3
  have hw0 := HBW.out
  have cc := cb W3 hw0
  go_wp2_with fail
  refine cc.mono ?_
  rintro e V1 ⟨v1, rfl, hm1, hn1⟩
  have hb1 := hb0.trans (hn1.mono hb0.size)
  have hw1 := hw0.trans (hn1.mono hw0.size)
  subst hm1
  clear cc hb0 hw0 hn1
  clear k0_0 k0_1 k1_0 k1_1
  have k0_0 := (HF0.out.below hb1 HF0.out.lt).cell0
  have k0_1 := (HF0.out.below hb1 HF0.out.lt).cell1
  have k1_0 := (HG0.out.below hb1 HG0.out.lt).cell0
  have k1_1 := (HG0.out.below hb1 HG0.out.lt).cell1
  clear k0_0 k0_1 k1_0 k1_1
  obtain ⟨YB, hYB⟩ : ∃ YB, YB = V1.heap.size := ⟨_, rfl⟩
  obtain ⟨U, hU⟩ : ∃ U, U = V1.alloc (.cells #[.int .i64 y1, .int .i64 y2] 23) := ⟨_, rfl⟩
  have hbU : Below W3.heap.size W3 U := by rw [hU]; exact hb1.alloc hb1.size _
  have HF := Lib.hid (HF0.out.below hbU HF0.out.lt)
  have HG := Lib.hid (HG0.out.below hbU HG0.out.lt)
  have HY := Lib.hid (show Two U YB (.int .i64 y1) (.int .i64 y2) 23 by rw [hU, hYB]; exact Two.newAt _ _ _ _ _ rfl)
  have HBU := Lib.hid (HBW.out.trans (hbU.mono HBW.out.size))
  clear hb1 hw1 hbU HF0 HG0 HBW cb
  go_upto_region 2 with fail
  rw [← hYB, ← hU]
  clear hU hYB
  have k0_0 := HF.out.cell0
  have k0_1 := HF.out.cell1
  have k1_0 := HG.out.cell0
  have k1_1 := HG.out.cell1
  have k2_0 := HY.out.cell0
  have k2_1 := HY.out.cell1
  have hb10 := Below.refl U.heap.size U
  have hw10 := HBU.out
  have cc := cv1 U hw10
  go_wp2_with fail
  refine cc.mono ?_
  rintro e V11 ⟨v11, rfl, hm11, hn11⟩
  have hb11 := hb10.trans (hn11.mono hb10.size)
  have hw11 := hw10.trans (hn11.mono hw10.size)
  subst hm11
  clear cc hb10 hw10 hn11
  clear k0_0 k0_1 k1_0 k1_1 k2_0 k2_1
  have k0_0 := (HF.out.below hb11 HF.out.lt).cell0
  have k0_1 := (HF.out.below hb11 HF.out.lt).cell1
  have k1_0 := (HG.out.below hb11 HG.out.lt).cell0
  have k1_1 := (HG.out.below hb11 HG.out.lt).cell1
  have k2_0 := (HY.out.below hb11 HY.out.lt).cell0
  have k2_1 := (HY.out.below hb11 HY.out.lt).cell1
  have cc := cv2 V11 hw11
  go_wp2_with fail
  refine cc.mono ?_
  rintro e V12 ⟨v12, rfl, hm12, hn12⟩
  have hb12 := hb11.trans (hn12.mono hb11.size)
  have hw12 := hw11.trans (hn12.mono hw11.size)
  subst hm12
  clear cc hb11 hw11 hn12
  clear k0_0 k0_1 k1_0 k1_1 k2_0 k2_1
  have k0_0 := (HF.out.below hb12 HF.out.lt).cell0
  have k0_1 := (HF.out.below hb12 HF.out.lt).cell1
  have k1_0 := (HG.out.below hb12 HG.out.lt).cell0
  have k1_1 := (HG.out.below hb12 HG.out.lt).cell1
  have k2_0 := (HY.out.below hb12 HY.out.lt).cell0
  have k2_1 := (HY.out.below hb12 HY.out.lt).cell1
  have HF0 := Lib.hid (HF.out.below hb12 HF.out.lt)
  have HG0 := Lib.hid (HG.out.below hb12 HG.out.lt)
  have HY0 := Lib.hid (HY.out.below hb12 HY.out.lt)
  have HB0 := Lib.hid hw12
  clear hb12 hw12 HF HG HY HBU
  clear k0_0 k0_1 k1_0 k1_1 k2_0 k2_1
  go_upto_region 4 with fail
  refine Lex.wp_region_lex (fun w' => Two w' w.heap.size (.int .i64 p) (.int .i64 q) 23 ∧ Two w' (w.heap.size + 1) (.int .i64 r) (.int .i64 s) 23 ∧ Two w' YB (.int .i64 y1) (.int .i64 y2) 23) (fun _ => true)
    [(0, true), (2, true), (1, false), (3, false), (4, false), (5, false)]
    (by kernel_rfl) (by kernel_rfl) (by kernel_rfl) (by kernel_rfl) ⟨HF0.out, HG0.out, HY0.out⟩ ?_
  have hb13 : Below V12.heap.size V12 V12.drew := ⟨rfl, rfl, rfl, Nat.le_refl _, fun _ _ => rfl⟩
  have hw13 : Below w.heap.size w V12.drew := ⟨HB0.out.os, HB0.out.tape, HB0.out.output, HB0.out.size, HB0.out.block⟩
  generalize hV0 : V12.drew = V13 at *
  clear hV0
  refine Lex.lex_take (v := ?_) rfl rfl (by rfl) (fun _ hS => ?_) ?_; rotate_left 1; (focus (have g0_0 := hS.1.cell0; have g0_1 := hS.1.cell1; have g1_0 := hS.2.1.cell0; have g1_1 := hS.2.1.cell1; have g2_0 := hS.2.2.cell0; have g2_1 := hS.2.2.cell1; clear hS; go_simp; with_reducible rfl)); simp only [List.setIfInBounds_toArray, List.set_cons_zero, List.set_cons_succ]
  refine Lex.lex_take (v := ?_) rfl rfl (by rfl) (fun _ hS => ?_) ?_; rotate_left 1; (focus (have g0_0 := hS.1.cell0; have g0_1 := hS.1.cell1; have g1_0 := hS.2.1.cell0; have g1_1 := hS.2.1.cell1; have g2_0 := hS.2.2.cell0; have g2_1 := hS.2.2.cell1; clear hS; go_simp; with_reducible rfl)); simp only [List.setIfInBounds_toArray, List.set_cons_zero, List.set_cons_succ]
  refine Lex.lex_do rfl ?_
  have cc := coP V13 hw13
  go_wp2_with fail
  refine cc.mono ?_
  rintro e V14 ⟨v14, rfl, hm14, hn14⟩
  have hb14 := hb13.trans (hn14.mono hb13.size)
  have hw14 := hw13.trans (hn14.mono hw13.size)
  clear cc hb13 hw13 hn14
  go_wp2_with fail
  refine Lex.lexQ_normal (fun _ => ⟨HF0.out.below hb14 HF0.out.lt, HG0.out.below hb14 HG0.out.lt, HY0.out.below hb14 HY0.out.lt⟩) ?_
  refine Lex.lex_do rfl ?_
  have cc := coR V14 hw14
  go_wp2_with fail
  refine cc.mono ?_
  rintro e V15 ⟨v15, rfl, hm15, hn15⟩
  have hb15 := hb14.trans (hn15.mono hb14.size)
  have hw15 := hw14.trans (hn15.mono hw14.size)
  have hm14 := hm14.below hn15
  clear cc hb14 hw14 hn15
  go_wp2_with fail
  refine Lex.lexQ_normal (fun _ => ⟨HF0.out.below hb15 HF0.out.lt, HG0.out.below hb15 HG0.out.lt, HY0.out.below hb15 HY0.out.lt⟩) ?_
  refine Lex.lex_do rfl ?_
  have cc := ccPR V15 hw15 _ _ hm14 hm15
  go_wp2_with fail
  refine cc.mono ?_
  rintro e V16 ⟨v16, rfl, hm16, hn16⟩
  have hb16 := hb15.trans (hn16.mono hb15.size)
  have hw16 := hw15.trans (hn16.mono hw15.size)
  clear hm14 hm15
  subst hm16
  clear cc hb15 hw15 hn16
  go_wp2_with fail
  refine Lex.lexQ_normal (fun _ => ⟨HF0.out.below hb16 HF0.out.lt, HG0.out.below hb16 HG0.out.lt, HY0.out.below hb16 HY0.out.lt⟩) ?_
  refine Lex.lex_do rfl ?_
  go_wp2_with fail
  refine Lex.lexQ_normal (fun _ => ⟨HF0.out.below hb16 HF0.out.lt, HG0.out.below hb16 HG0.out.lt, HY0.out.below hb16 HY0.out.lt⟩) ?_
  refine Lex.lex_nil ?_
  have HF1 := Lib.hid (HF0.out.below hb16 HF0.out.lt)
  have HG1 := Lib.hid (HG0.out.below hb16 HG0.out.lt)
  have HY1 := Lib.hid (HY0.out.below hb16 HY0.out.lt)
  have HB1 := Lib.hid hw16
  clear hb16 hw16 HF0 HG0 HY0 HB0
  have k0_0 := HF1.out.cell0
  have k0_1 := HF1.out.cell1
  have k1_0 := HG1.out.cell0
  have k1_1 := HG1.out.cell1
  have k2_0 := HY1.out.cell0
  have k2_1 := HY1.out.cell1
  have hb17 := Below.refl V16.heap.size V16
  have hw17 := HB1.out
  have cc := cB V16 hw17
  go_wp2_with fail
  refine cc.mono ?_
  rintro e V18 ⟨v18, rfl, hm18, hn18⟩
  have hb18 := hb17.trans (hn18.mono hb17.size)
  have hw18 := hw17.trans (hn18.mono hw17.size)
  subst hm18
  clear cc hb17 hw17 hn18
  clear k0_0 k0_1 k1_0 k1_1 k2_0 k2_1
  have k0_0 := (HF1.out.below hb18 HF1.out.lt).cell0
  have k0_1 := (HF1.out.below hb18 HF1.out.lt).cell1
  have k1_0 := (HG1.out.below hb18 HG1.out.lt).cell0
  have k1_1 := (HG1.out.below hb18 HG1.out.lt).cell1
  have k2_0 := (HY1.out.below hb18 HY1.out.lt).cell0
  have k2_1 := (HY1.out.below hb18 HY1.out.lt).cell1
  clear k0_0 k0_1 k1_0 k1_1 k2_0 k2_1
  obtain ⟨ZB, hZB⟩ : ∃ ZB, ZB = V18.heap.size := ⟨_, rfl⟩
  obtain ⟨U2, hU2⟩ : ∃ U2, U2 = V18.alloc (.cells #[.int .i64 y1, .int .i64 y2] 23) := ⟨_, rfl⟩
  have hbU : Below V16.heap.size V16 U2 := by rw [hU2]; exact hb18.alloc hb18.size _
  have XY := Lib.hid (HY1.out.below hbU HY1.out.lt)
  have XZ := Lib.hid (show Two U2 ZB (.int .i64 y1) (.int .i64 y2) 23 by rw [hU2, hZB]; exact Two.newAt _ _ _ _ _ rfl)
  have HBU2 := Lib.hid (HB1.out.trans (hbU.mono HB1.out.size))
  clear hb18 hw18 hbU HF1 HG1 HY1 HB1
  go_upto_region 7 with fail
  rw [← hZB, ← hU2]
  clear hU2 hZB
  have k0_0 := XY.out.cell0
  have k0_1 := XY.out.cell1
  have k1_0 := XZ.out.cell0
  have k1_1 := XZ.out.cell1
  have hb19 := Below.refl U2.heap.size U2
  have hw19 := HBU2.out
  have cc := ci U2 hw19
  go_wp2_with fail
  refine cc.mono ?_
  rintro e V20 ⟨v20, rfl, hm20, hn20⟩
  have hb20 := hb19.trans (hn20.mono hb19.size)
  have hw20 := hw19.trans (hn20.mono hw19.size)
  subst hm20
  clear cc hb19 hw19 hn20
  clear k0_0 k0_1 k1_0 k1_1
  have k0_0 := (XY.out.below hb20 XY.out.lt).cell0
  have k0_1 := (XY.out.below hb20 XY.out.lt).cell1
  have k1_0 := (XZ.out.below hb20 XZ.out.lt).cell0
  have k1_1 := (XZ.out.below hb20 XZ.out.lt).cell1
  have cc := cl V20 hw20
  go_wp2_with fail
  refine cc.mono ?_
  rintro e V21 ⟨v21, rfl, hm21, hn21⟩
  have hb21 := hb20.trans (hn21.mono hb20.size)
  have hw21 := hw20.trans (hn21.mono hw20.size)
  subst hm21
  clear cc hb20 hw20 hn21
  clear k0_0 k0_1 k1_0 k1_1
  have k0_0 := (XY.out.below hb21 XY.out.lt).cell0
  have k0_1 := (XY.out.below hb21 XY.out.lt).cell1
  have k1_0 := (XZ.out.below hb21 XZ.out.lt).cell0
  have k1_1 := (XZ.out.below hb21 XZ.out.lt).cell1
  have HE := Lib.hid hw21
  clear hb21 hw21
  go_wp2
  go_ret
  exact ⟨rfl, HE.out⟩

set_option maxRecDepth 100000 in
set_option maxHeartbeats 3200000 in
theorem betweens_e (p q r s : Int) (w : World) (i1 : I64 p) (i2 : I64 q) (i3 : I64 r) (i4 : I64 s) (y1 y2 : Int) (hy : betwM p q r s = (y1, y2)) (h1 : FOk (p, q)) (h2 : FOk (r, s)) (h : ¬ 0 < p * s - r * q) (h3 : ¬ y2 ≤ 200) :
    Calls Try.prog 3 #[.agg #[.int .i64 p, .int .i64 q], .agg #[.int .i64 r, .int .i64 s]] w (RetV (.bool true) w) := by
  have hb := betwM_ok h1 h2 h
  rw [hy] at hb
  have cb := between_w i1 i2 i3 i4 (.tuple #[.agg #[.int .i64 y1, .int .i64 y2], .int .i64 0]) (by unfold betwR; rw [if_neg (fun g => g ⟨h1, h2⟩), if_neg h, hy]) (w := w)
  have cv1 := valid_w p q true (decide_eq_true h1) (w := w)
  have cv2 := valid_w r s true (decide_eq_true h2) (w := w)
  have coP := of_w h1 (w := w)
  have coR := of_w h2 (w := w)
  have ccPR := cmp_w p q r s (w := w)
  have e1 := sgn_le (show p * s ≤ r * q by omega)
  generalize sgn (p * s - r * q) = g1 at *
  have d1 : decide (0 < g1) = false := decide_eq_false (by omega)
  have cB : ∀ W (_ : Below w.heap.size w W), Calls Try.prog 18 #[.agg #[.int .i64 p, .int .i64 q], .agg #[.int .i64 r, .int .i64 s], .int .i64 200] W (RetW (.tuple #[.agg #[.int .i64 0, .int .i64 0], .bool false]) W) := fun W _ => by
    have := rbetween_any h1 h2 hb W
    rw [if_neg h3] at this
    exact this.mono fun e w' h => RetW.of h
  have d2 : decide (200 < y2) = true := decide_eq_true (by omega)
  clear h h1 h2 i1 i2 i3 i4 hb hy h3 e1
  have cl := lives_w (w := w)
  obtain ⟨W3, hW3⟩ : ∃ W3, W3 = ((w.alloc (.cells #[.int .i64 p, .int .i64 q] 23)).alloc (.cells #[.int .i64 r, .int .i64 s] 23)) := ⟨_, rfl⟩
  have hB : Below w.heap.size w W3 := by rw [hW3]; exact (((Below.refl _ _).alloc (Nat.le_refl _) _).alloc (by simp; try omega) _)
  have HBW := Lib.hid hB
  have HF0 := Lib.hid (show Two W3 (w.heap.size) (.int .i64 p) (.int .i64 q) 23 by rw [hW3]; exact (((Two.newAt _ _ _ _ _ (by simp))).alloc _))
  have HG0 := Lib.hid (show Two W3 (w.heap.size + 1) (.int .i64 r) (.int .i64 s) 23 by rw [hW3]; exact (Two.newAt _ _ _ _ _ (by simp)))
  clear hB
  go_enter Try.func3, Try.ntmps3
  go_upto_region 1 with fail
  rw [← hW3]
  clear hW3
  have k0_0 := HF0.out.cell0
  have k0_1 := HF0.out.cell1
  have k1_0 := HG0.out.cell0
  have k1_1 := HG0.out.cell1
  have hb0 := Below.refl W3.heap.size W3
  have hw0 := HBW.out
  have cc := cb W3 hw0
  go_wp2_with fail
  refine cc.mono ?_
  rintro e V1 ⟨v1, rfl, hm1, hn1⟩
  have hb1 := hb0.trans (hn1.mono hb0.size)
  have hw1 := hw0.trans (hn1.mono hw0.size)
  subst hm1
  clear cc hb0 hw0 hn1
  clear k0_0 k0_1 k1_0 k1_1
  have k0_0 := (HF0.out.below hb1 HF0.out.lt).cell0
  have k0_1 := (HF0.out.below hb1 HF0.out.lt).cell1
  have k1_0 := (HG0.out.below hb1 HG0.out.lt).cell0
  have k1_1 := (HG0.out.below hb1 HG0.out.lt).cell1
  clear k0_0 k0_1 k1_0 k1_1
  obtain ⟨YB, hYB⟩ : ∃ YB, YB = V1.heap.size := ⟨_, rfl⟩
  obtain ⟨U, hU⟩ : ∃ U, U = V1.alloc (.cells #[.int .i64 y1, .int .i64 y2] 23) := ⟨_, rfl⟩
  have hbU : Below W3.heap.size W3 U := by rw [hU]; exact hb1.alloc hb1.size _
  have HF := Lib.hid (HF0.out.below hbU HF0.out.lt)
  have HG := Lib.hid (HG0.out.below hbU HG0.out.lt)
  have HY := Lib.hid (show Two U YB (.int .i64 y1) (.int .i64 y2) 23 by rw [hU, hYB]; exact Two.newAt _ _ _ _ _ rfl)
  have HBU := Lib.hid (HBW.out.trans (hbU.mono HBW.out.size))
  clear hb1 hw1 hbU HF0 HG0 HBW cb
  go_upto_region 2 with fail
  rw [← hYB, ← hU]
  clear hU hYB
  have k0_0 := HF.out.cell0
  have k0_1 := HF.out.cell1
  have k1_0 := HG.out.cell0
  have k1_1 := HG.out.cell1
  have k2_0 := HY.out.cell0
  have k2_1 := HY.out.cell1
  have hb10 := Below.refl U.heap.size U
  have hw10 := HBU.out
  have cc := cv1 U hw10
  go_wp2_with fail
  refine cc.mono ?_
  rintro e V11 ⟨v11, rfl, hm11, hn11⟩
  have hb11 := hb10.trans (hn11.mono hb10.size)
  have hw11 := hw10.trans (hn11.mono hw10.size)
  subst hm11
  clear cc hb10 hw10 hn11
  clear k0_0 k0_1 k1_0 k1_1 k2_0 k2_1
  have k0_0 := (HF.out.below hb11 HF.out.lt).cell0
  have k0_1 := (HF.out.below hb11 HF.out.lt).cell1
  have k1_0 := (HG.out.below hb11 HG.out.lt).cell0
  have k1_1 := (HG.out.below hb11 HG.out.lt).cell1
  have k2_0 := (HY.out.below hb11 HY.out.lt).cell0
  have k2_1 := (HY.out.below hb11 HY.out.lt).cell1
  have cc := cv2 V11 hw11
  go_wp2_with fail
  refine cc.mono ?_
  rintro e V12 ⟨v12, rfl, hm12, hn12⟩
  have hb12 := hb11.trans (hn12.mono hb11.size)
  have hw12 := hw11.trans (hn12.mono hw11.size)
  subst hm12
  clear cc hb11 hw11 hn12
  clear k0_0 k0_1 k1_0 k1_1 k2_0 k2_1
  have k0_0 := (HF.out.below hb12 HF.out.lt).cell0
  have k0_1 := (HF.out.below hb12 HF.out.lt).cell1
  have k1_0 := (HG.out.below hb12 HG.out.lt).cell0
  have k1_1 := (HG.out.below hb12 HG.out.lt).cell1
  have k2_0 := (HY.out.below hb12 HY.out.lt).cell0
  have k2_1 := (HY.out.below hb12 HY.out.lt).cell1
  have HF0 := Lib.hid (HF.out.below hb12 HF.out.lt)
  have HG0 := Lib.hid (HG.out.below hb12 HG.out.lt)
  have HY0 := Lib.hid (HY.out.below hb12 HY.out.lt)
  have HB0 := Lib.hid hw12
  clear hb12 hw12 HF HG HY HBU
  clear k0_0 k0_1 k1_0 k1_1 k2_0 k2_1
  go_upto_region 4 with fail
  refine Lex.wp_region_lex (fun w' => Two w' w.heap.size (.int .i64 p) (.int .i64 q) 23 ∧ Two w' (w.heap.size + 1) (.int .i64 r) (.int .i64 s) 23 ∧ Two w' YB (.int .i64 y1) (.int .i64 y2) 23) (fun _ => true)
    [(0, true), (2, true), (1, false), (3, false), (4, false), (5, false)]
    (by kernel_rfl) (by kernel_rfl) (by kernel_rfl) (by kernel_rfl) ⟨HF0.out, HG0.out, HY0.out⟩ ?_
  have hb13 : Below V12.heap.size V12 V12.drew := ⟨rfl, rfl, rfl, Nat.le_refl _, fun _ _ => rfl⟩
  have hw13 : Below w.heap.size w V12.drew := ⟨HB0.out.os, HB0.out.tape, HB0.out.output, HB0.out.size, HB0.out.block⟩
  generalize hV0 : V12.drew = V13 at *
  clear hV0
  refine Lex.lex_take (v := ?_) rfl rfl (by rfl) (fun _ hS => ?_) ?_; rotate_left 1; (focus (have g0_0 := hS.1.cell0; have g0_1 := hS.1.cell1; have g1_0 := hS.2.1.cell0; have g1_1 := hS.2.1.cell1; have g2_0 := hS.2.2.cell0; have g2_1 := hS.2.2.cell1; clear hS; go_simp; with_reducible rfl)); simp only [List.setIfInBounds_toArray, List.set_cons_zero, List.set_cons_succ]
  refine Lex.lex_take (v := ?_) rfl rfl (by rfl) (fun _ hS => ?_) ?_; rotate_left 1; (focus (have g0_0 := hS.1.cell0; have g0_1 := hS.1.cell1; have g1_0 := hS.2.1.cell0; have g1_1 := hS.2.1.cell1; have g2_0 := hS.2.2.cell0; have g2_1 := hS.2.2.cell1; clear hS; go_simp; with_reducible rfl)); simp only [List.setIfInBounds_toArray, List.set_cons_zero, List.set_cons_succ]
  refine Lex.lex_do rfl ?_
  have cc := coP V13 hw13
  go_wp2_with fail
  refine cc.mono ?_
  rintro e V14 ⟨v14, rfl, hm14, hn14⟩
  have hb14 := hb13.trans (hn14.mono hb13.size)
  have hw14 := hw13.trans (hn14.mono hw13.size)
  clear cc hb13 hw13 hn14
  go_wp2_with fail
  refine Lex.lexQ_normal (fun _ => ⟨HF0.out.below hb14 HF0.out.lt, HG0.out.below hb14 HG0.out.lt, HY0.out.below hb14 HY0.out.lt⟩) ?_
  refine Lex.lex_do rfl ?_
  have cc := coR V14 hw14
  go_wp2_with fail
  refine cc.mono ?_
  rintro e V15 ⟨v15, rfl, hm15, hn15⟩
  have hb15 := hb14.trans (hn15.mono hb14.size)
  have hw15 := hw14.trans (hn15.mono hw14.size)
  have hm14 := hm14.below hn15
  clear cc hb14 hw14 hn15
  go_wp2_with fail
  refine Lex.lexQ_normal (fun _ => ⟨HF0.out.below hb15 HF0.out.lt, HG0.out.below hb15 HG0.out.lt, HY0.out.below hb15 HY0.out.lt⟩) ?_
  refine Lex.lex_do rfl ?_
  have cc := ccPR V15 hw15 _ _ hm14 hm15
  go_wp2_with fail
  refine cc.mono ?_
  rintro e V16 ⟨v16, rfl, hm16, hn16⟩
  have hb16 := hb15.trans (hn16.mono hb15.size)
  have hw16 := hw15.trans (hn16.mono hw15.size)
  clear hm14 hm15
  subst hm16
  clear cc hb15 hw15 hn16
  go_wp2_with fail
  refine Lex.lexQ_normal (fun _ => ⟨HF0.out.below hb16 HF0.out.lt, HG0.out.below hb16 HG0.out.lt, HY0.out.below hb16 HY0.out.lt⟩) ?_
  refine Lex.lex_do rfl ?_
  go_wp2_with fail
  refine Lex.lexQ_normal (fun _ => ⟨HF0.out.below hb16 HF0.out.lt, HG0.out.below hb16 HG0.out.lt, HY0.out.below hb16 HY0.out.lt⟩) ?_
  refine Lex.lex_nil ?_
  have HF1 := Lib.hid (HF0.out.below hb16 HF0.out.lt)
  have HG1 := Lib.hid (HG0.out.below hb16 HG0.out.lt)
  have HY1 := Lib.hid (HY0.out.below hb16 HY0.out.lt)
  have HB1 := Lib.hid hw16
  clear hb16 hw16 HF0 HG0 HY0 HB0
  have k0_0 := HF1.out.cell0
  have k0_1 := HF1.out.cell1
  have k1_0 := HG1.out.cell0
  have k1_1 := HG1.out.cell1
  have k2_0 := HY1.out.cell0
  have k2_1 := HY1.out.cell1
  have hb17 := Below.refl V16.heap.size V16
  have hw17 := HB1.out
  have cc := cB V16 hw17
  go_wp2_with fail
  refine cc.mono ?_
  rintro e V18 ⟨v18, rfl, hm18, hn18⟩
  have hb18 := hb17.trans (hn18.mono hb17.size)
  have hw18 := hw17.trans (hn18.mono hw17.size)
  subst hm18
  clear cc hb17 hw17 hn18
  clear k0_0 k0_1 k1_0 k1_1 k2_0 k2_1
  have k0_0 := (HF1.out.below hb18 HF1.out.lt).cell0
  have k0_1 := (HF1.out.below hb18 HF1.out.lt).cell1
  have k1_0 := (HG1.out.below hb18 HG1.out.lt).cell0
  have k1_1 := (HG1.out.below hb18 HG1.out.lt).cell1
  have k2_0 := (HY1.out.below hb18 HY1.out.lt).cell0
  have k2_1 := (HY1.out.below hb18 HY1.out.lt).cell1
  clear k0_0 k0_1 k1_0 k1_1 k2_0 k2_1
  obtain ⟨ZB, hZB⟩ : ∃ ZB, ZB = V18.heap.size := ⟨_, rfl⟩
  obtain ⟨U2, hU2⟩ : ∃ U2, U2 = V18.alloc (.cells #[.int .i64 0, .int .i64 0] 23) := ⟨_, rfl⟩
  have hbU : Below V16.heap.size V16 U2 := by rw [hU2]; exact hb18.alloc hb18.size _
  have XY := Lib.hid (HY1.out.below hbU HY1.out.lt)
  have XZ := Lib.hid (show Two U2 ZB (.int .i64 0) (.int .i64 0) 23 by rw [hU2, hZB]; exact Two.newAt _ _ _ _ _ rfl)
  have HBU2 := Lib.hid (HB1.out.trans (hbU.mono HB1.out.size))
  clear hb18 hw18 hbU HF1 HG1 HY1 HB1
  go_upto_region 7 with fail
  rw [← hZB, ← hU2]
  clear hU2 hZB
  have k0_0 := XY.out.cell0
  have k0_1 := XY.out.cell1
  have k1_0 := XZ.out.cell0
  have k1_1 := XZ.out.cell1
  have hb19 := Below.refl U2.heap.size U2
  have hw19 := HBU2.out
  have cc := cl U2 hw19
  go_wp2_with fail
  refine cc.mono ?_
  rintro e V20 ⟨v20, rfl, hm20, hn20⟩
  have hb20 := hb19.trans (hn20.mono hb19.size)
  have hw20 := hw19.trans (hn20.mono hw19.size)
  subst hm20
  clear cc hb19 hw19 hn20
  clear k0_0 k0_1 k1_0 k1_1
  have k0_0 := (XY.out.below hb20 XY.out.lt).cell0
  have k0_1 := (XY.out.below hb20 XY.out.lt).cell1
  have k1_0 := (XZ.out.below hb20 XZ.out.lt).cell0
  have k1_1 := (XZ.out.below hb20 XZ.out.lt).cell1
  have HE := Lib.hid hw20
  clear hb20 hw20
  go_wp2
  go_ret
  exact ⟨rfl, HE.out⟩

theorem gearBetweens_any (p q r s : Int) (w : World) (i1 : I64 p) (i2 : I64 q) (i3 : I64 r) (i4 : I64 s) : Calls Try.prog 3 #[.agg #[.int .i64 p, .int .i64 q], .agg #[.int .i64 r, .int .i64 s]] w (RetV (.bool true) w) := by
  by_cases h1 : FOk (p, q)
  · by_cases h2 : FOk (r, s)
    · by_cases h : 0 < p * s - r * q
      · exact betweens_c p q r s w i1 i2 i3 i4 h1 h2 h
      · by_cases h3 : (betwM p q r s).2 ≤ 200
        · exact betweens_d p q r s w i1 i2 i3 i4 _ _ rfl h1 h2 h h3
        · exact betweens_e p q r s w i1 i2 i3 i4 _ _ rfl h1 h2 h h3
    · exact betweens_b p q r s w i1 i2 i3 i4 h1 h2
  · exact betweens_a p q r s w i1 i2 i3 i4 h1
end Go.Proofs.Ytklngjjokbhfpaa
