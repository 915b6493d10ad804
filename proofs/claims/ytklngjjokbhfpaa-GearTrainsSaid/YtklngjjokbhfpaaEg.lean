/- The walk of GearNear (printed by geneg.py). -/
import Derived.Test.YtklngjjokbhfpaaEf
import Derived.Test.YtklngjjokbhfpaaCj
import Derived.Test.YtklngjjokbhfpaaVo
namespace Go.Proofs.Ytklngjjokbhfpaa
open Go.RowKit

theorem lives_y {w : World} : ∀ W (_ : Below w.heap.size w W), Calls Try.prog 15 #[] W (RetW (.bool true) W) := fun W _ => (lives_any W).mono fun _e _w' h => RetW.of h
theorem valid_y (p q : Int) (b : Bool) (h : decide (FOk (p, q)) = b) {w : World} : ∀ W (_ : Below w.heap.size w W), Calls Try.prog 13 #[.agg #[.int .i64 p, .int .i64 q]] W (RetW (.bool b) W) := fun W _ => by
  subst h
  exact (rvalid_any p q W).mono fun e w' h => RetW.of h
/-- Nearest, where it answers. -/
theorem nearest_ok (p q most : Int) (w : World) (h : FOk (p, q)) (hm : 1 ≤ most) (hm2 : most ≤ 4611686018427387904) :
    Calls Try.prog 21 #[.agg #[.int .i64 p, .int .i64 q], .int .i64 most] w (RetNear p q most w) := by
  by_cases hq : q ≤ most
  · exact (nearest_own p q most w h ⟨hm, hm2⟩ hq).mono fun e w' h2 => ⟨p, q, h2.1, Near.own h.1 hq h.2.2.2, h.2.2.1, h2.2⟩
  · exact nearest_main p q most w h hm (by omega)
theorem Near.fok {p q most n d : Int} (h : Near p q most n d) (hm : most ≤ 4611686018427387904) (hn : n.natAbs ≤ 4611686018427387904) : FOk (n, d) := ⟨h.d1, by have := h.dm; show d ≤ _; omega, hn, h.low⟩
/-- The comparison of two distances. -/
theorem near_cmp {A d Y k q : Int} (hq : 0 < q) : sgn (A * (k * q) - Y * (d * q)) = sgn (A * k - Y * d) := by
  rw [show A * (k * q) - Y * (d * q) = (A * k - Y * d) * q by grind]
  exact sgn_mul_pos _ hq

set_option maxRecDepth 100000 in
set_option maxHeartbeats 1600000 in
theorem near_a (p q most r s : Int) (w : World) (hp : I64 p) (hq : I64 q) (h : ¬ FOk (p, q)) :
    Calls Try.prog 8 #[.agg #[.int .i64 p, .int .i64 q], .int .i64 most, .agg #[.int .i64 r, .int .i64 s]] w (RetV (.bool true) w) := by
  have cn : ∀ W (_ : Below w.heap.size w W), Calls Try.prog 21 #[.agg #[.int .i64 p, .int .i64 q], .int .i64 most] W (RetW (.tuple #[.agg #[.int .i64 0, .int .i64 0], .int .i64 2]) W) := fun W _ => (nearest_bad p q most W hp hq h).mono fun e w' h => RetW.of h
  have cl := lives_y (w := w)
  have cv1 := valid_y p q false (decide_eq_false h) (w := w)
  clear h hp hq
  obtain ⟨W3, hW3⟩ : ∃ W3, W3 = ((w.alloc (.cells #[.int .i64 p, .int .i64 q] 23)).alloc (.cells #[.int .i64 r, .int .i64 s] 23)) := ⟨_, rfl⟩
  have hB : Below w.heap.size w W3 := by rw [hW3]; exact (((Below.refl _ _).alloc (Nat.le_refl _) _).alloc (by simp; try omega) _)
  have HBW := Lib.hid hB
  have HF := Lib.hid (show Two W3 (w.heap.size) (.int .i64 p) (.int .i64 q) 23 by rw [hW3]; exact (((Two.newAt _ _ _ _ _ (by simp))).alloc _))
  have HG := Lib.hid (show Two W3 (w.heap.size + 1) (.int .i64 r) (.int .i64 s) 23 by rw [hW3]; exact (Two.newAt _ _ _ _ _ (by simp)))
  clear hB
  go_enter Try.func8, Try.ntmps8
  go_upto_region 1 with fail
  rw [← hW3]
  clear hW3
  have k0_0 := HF.out.cell0
  have k0_1 := HF.out.cell1
  have k1_0 := HG.out.cell0
  have k1_1 := HG.out.cell1
  have hb0 := Below.refl W3.heap.size W3
  have hw0 := HBW.out
  have cc := cn W3 hw0
  go_wp2_with fail
  refine cc.mono ?_
  rintro e V1 ⟨v1, rfl, hm1, hn1⟩
  have hb1 := hb0.trans (hn1.mono hb0.size)
  have hw1 := hw0.trans (hn1.mono hw0.size)
  subst hm1
  clear cc hb0 hw0 hn1
  clear k0_0 k0_1 k1_0 k1_1
  have k0_0 := (HF.out.below hb1 HF.out.lt).cell0
  have k0_1 := (HF.out.below hb1 HF.out.lt).cell1
  have k1_0 := (HG.out.below hb1 HG.out.lt).cell0
  have k1_1 := (HG.out.below hb1 HG.out.lt).cell1
  obtain ⟨NB, hNB⟩ : ∃ NB, NB = V1.heap.size := ⟨_, rfl⟩
  obtain ⟨U, hU⟩ : ∃ U, U = V1.alloc (.cells #[.int .i64 0, .int .i64 0] 23) := ⟨_, rfl⟩
  have HU := Lib.hid (show U = _ ∧ NB = _ from ⟨hU, hNB⟩)
  clear hU hNB k0_0 k0_1 k1_0 k1_1
  go_upto_region 2 with fail
  rw [← HU.out.2, ← HU.out.1]
  have hbU : Below V1.heap.size V1 U := by rw [HU.out.1]; exact (Below.refl _ _).alloc (Nat.le_refl _) _
  have XF := Lib.hid ((HF.out.below hb1 HF.out.lt).below hbU (HF.out.below hb1 HF.out.lt).lt)
  have XG := Lib.hid ((HG.out.below hb1 HG.out.lt).below hbU (HG.out.below hb1 HG.out.lt).lt)
  have XW := Lib.hid (hw1.trans (hbU.mono hw1.size))
  clear HU hbU hb1 hw1 HF HG HBW
  have k0_0 := XF.out.cell0
  have k0_1 := XF.out.cell1
  have k1_0 := XG.out.cell0
  have k1_1 := XG.out.cell1
  have hb10 := Below.refl U.heap.size U
  have hw10 := XW.out
  have cc := cv1 U hw10
  go_wp2_with fail
  refine cc.mono ?_
  rintro e V11 ⟨v11, rfl, hm11, hn11⟩
  have hb11 := hb10.trans (hn11.mono hb10.size)
  have hw11 := hw10.trans (hn11.mono hw10.size)
  subst hm11
  clear cc hb10 hw10 hn11
  clear k0_0 k0_1 k1_0 k1_1
  have k0_0 := (XF.out.below hb11 XF.out.lt).cell0
  have k0_1 := (XF.out.below hb11 XF.out.lt).cell1
  have k1_0 := (XG.out.below hb11 XG.out.lt).cell0
  have k1_1 := (XG.out.below hb11 XG.out.lt).cell1
  have cc := cl V11 hw11
  go_wp2_with fail
  refine cc.mono ?_
  rintro e V12 ⟨v12, rfl, hm12, hn12⟩
  have hb12 := hb11.trans (hn12.mono hb11.size)
  have hw12 := hw11.trans (hn12.mono hw11.size)
  subst hm12
  clear cc hb11 hw11 hn12
  clear k0_0 k0_1 k1_0 k1_1
  have k0_0 := (XF.out.below hb12 XF.out.lt).cell0
  have k0_1 := (XF.out.below hb12 XF.out.lt).cell1
  have k1_0 := (XG.out.below hb12 XG.out.lt).cell0
  have k1_1 := (XG.out.below hb12 XG.out.lt).cell1
  have HE := Lib.hid hw12
  clear hb12 hw12
  go_wp2
  go_ret
  exact ⟨rfl, HE.out⟩

set_option maxRecDepth 100000 in
set_option maxHeartbeats 1600000 in
theorem near_b (p q most r s : Int) (w : World) (h : FOk (p, q)) (hm : most < 1) :
    Calls Try.prog 8 #[.agg #[.int .i64 p, .int .i64 q], .int .i64 most, .agg #[.int .i64 r, .int .i64 s]] w (RetV (.bool true) w) := by
  have cn : ∀ W (_ : Below w.heap.size w W), Calls Try.prog 21 #[.agg #[.int .i64 p, .int .i64 q], .int .i64 most] W (RetW (.tuple #[.agg #[.int .i64 0, .int .i64 0], .int .i64 1]) W) := fun W _ => (nearest_arg p q most W h (by omega)).mono fun e w' h => RetW.of h
  have cl := lives_y (w := w)
  have cv1 := valid_y p q true (decide_eq_true h) (w := w)
  clear h
  obtain ⟨W3, hW3⟩ : ∃ W3, W3 = ((w.alloc (.cells #[.int .i64 p, .int .i64 q] 23)).alloc (.cells #[.int .i64 r, .int .i64 s] 23)) := ⟨_, rfl⟩
  have hB : Below w.heap.size w W3 := by rw [hW3]; exact (((Below.refl _ _).alloc (Nat.le_refl _) _).alloc (by simp; try omega) _)
  have HBW := Lib.hid hB
  have HF := Lib.hid (show Two W3 (w.heap.size) (.int .i64 p) (.int .i64 q) 23 by rw [hW3]; exact (((Two.newAt _ _ _ _ _ (by simp))).alloc _))
  have HG := Lib.hid (show Two W3 (w.heap.size + 1) (.int .i64 r) (.int .i64 s) 23 by rw [hW3]; exact (Two.newAt _ _ _ _ _ (by simp)))
  clear hB
  go_enter Try.func8, Try.ntmps8
  go_upto_region 1 with fail
  rw [← hW3]
  clear hW3
  have k0_0 := HF.out.cell0
  have k0_1 := HF.out.cell1
  have k1_0 := HG.out.cell0
  have k1_1 := HG.out.cell1
  have hb0 := Below.refl W3.heap.size W3
  have hw0 := HBW.out
  have cc := cn W3 hw0
  go_wp2_with fail
  refine cc.mono ?_
  rintro e V1 ⟨v1, rfl, hm1, hn1⟩
  have hb1 := hb0.trans (hn1.mono hb0.size)
  have hw1 := hw0.trans (hn1.mono hw0.size)
  subst hm1
  clear cc hb0 hw0 hn1
  clear k0_0 k0_1 k1_0 k1_1
  have k0_0 := (HF.out.below hb1 HF.out.lt).cell0
  have k0_1 := (HF.out.below hb1 HF.out.lt).cell1
  have k1_0 := (HG.out.below hb1 HG.out.lt).cell0
  have k1_1 := (HG.out.below hb1 HG.out.lt).cell1
  obtain ⟨NB, hNB⟩ : ∃ NB, NB = V1.heap.size := ⟨_, rfl⟩
  obtain ⟨U, hU⟩ : ∃ U, U = V1.alloc (.cells #[.int .i64 0, .int .i64 0] 23) := ⟨_, rfl⟩
  have HU := Lib.hid (show U = _ ∧ NB = _ from ⟨hU, hNB⟩)
  clear hU hNB k0_0 k0_1 k1_0 k1_1
  go_upto_region 2 with fail
  rw [← HU.out.2, ← HU.out.1]
  have hbU : Below V1.heap.size V1 U := by rw [HU.out.1]; exact (Below.refl _ _).alloc (Nat.le_refl _) _
  have XF := Lib.hid ((HF.out.below hb1 HF.out.lt).below hbU (HF.out.below hb1 HF.out.lt).lt)
  have XG := Lib.hid ((HG.out.below hb1 HG.out.lt).below hbU (HG.out.below hb1 HG.out.lt).lt)
  have XW := Lib.hid (hw1.trans (hbU.mono hw1.size))
  clear HU hbU hb1 hw1 HF HG HBW
  have k0_0 := XF.out.cell0
  have k0_1 := XF.out.cell1
  have k1_0 := XG.out.cell0
  have k1_1 := XG.out.cell1
  have hb10 := Below.refl U.heap.size U
  have hw10 := XW.out
  have cc := cv1 U hw10
  go_wp2_with fail
  refine cc.mono ?_
  rintro e V11 ⟨v11, rfl, hm11, hn11⟩
  have hb11 := hb10.trans (hn11.mono hb10.size)
  have hw11 := hw10.trans (hn11.mono hw10.size)
  subst hm11
  clear cc hb10 hw10 hn11
  clear k0_0 k0_1 k1_0 k1_1
  have k0_0 := (XF.out.below hb11 XF.out.lt).cell0
  have k0_1 := (XF.out.below hb11 XF.out.lt).cell1
  have k1_0 := (XG.out.below hb11 XG.out.lt).cell0
  have k1_1 := (XG.out.below hb11 XG.out.lt).cell1
  have cc := cl V11 hw11
  go_wp2_with fail
  refine cc.mono ?_
  rintro e V12 ⟨v12, rfl, hm12, hn12⟩
  have hb12 := hb11.trans (hn12.mono hb11.size)
  have hw12 := hw11.trans (hn12.mono hw11.size)
  subst hm12
  clear cc hb11 hw11 hn12
  clear k0_0 k0_1 k1_0 k1_1
  have k0_0 := (XF.out.below hb12 XF.out.lt).cell0
  have k0_1 := (XF.out.below hb12 XF.out.lt).cell1
  have k1_0 := (XG.out.below hb12 XG.out.lt).cell0
  have k1_1 := (XG.out.below hb12 XG.out.lt).cell1
  have HE := Lib.hid hw12
  clear hb12 hw12
  go_wp2
  go_ret
  exact ⟨rfl, HE.out⟩

set_option maxRecDepth 100000 in
set_option maxHeartbeats 1600000 in
theorem near_c (p q most r s : Int) (w : World) (h : FOk (p, q)) (hm : ¬ most < 1) (hm2 : 4611686018427387904 < most) :
    Calls Try.prog 8 #[.agg #[.int .i64 p, .int .i64 q], .int .i64 most, .agg #[.int .i64 r, .int .i64 s]] w (RetV (.bool true) w) := by
  have cn : ∀ W (_ : Below w.heap.size w W), Calls Try.prog 21 #[.agg #[.int .i64 p, .int .i64 q], .int .i64 most] W (RetW (.tuple #[.agg #[.int .i64 0, .int .i64 0], .int .i64 1]) W) := fun W _ => (nearest_arg p q most W h (by omega)).mono fun e w' h => RetW.of h
  have cl := lives_y (w := w)
  have cv1 := valid_y p q true (decide_eq_true h) (w := w)
  clear h
  obtain ⟨W3, hW3⟩ : ∃ W3, W3 = ((w.alloc (.cells #[.int .i64 p, .int .i64 q] 23)).alloc (.cells #[.int .i64 r, .int .i64 s] 23)) := ⟨_, rfl⟩
  have hB : Below w.heap.size w W3 := by rw [hW3]; exact (((Below.refl _ _).alloc (Nat.le_refl _) _).alloc (by simp; try omega) _)
  have HBW := Lib.hid hB
  have HF := Lib.hid (show Two W3 (w.heap.size) (.int .i64 p) (.int .i64 q) 23 by rw [hW3]; exact (((Two.newAt _ _ _ _ _ (by simp))).alloc _))
  have HG := Lib.hid (show Two W3 (w.heap.size + 1) (.int .i64 r) (.int .i64 s) 23 by rw [hW3]; exact (Two.newAt _ _ _ _ _ (by simp)))
  clear hB
  go_enter Try.func8, Try.ntmps8
  go_upto_region 1 with fail
  rw [← hW3]
  clear hW3
  have k0_0 := HF.out.cell0
  have k0_1 := HF.out.cell1
  have k1_0 := HG.out.cell0
  have k1_1 := HG.out.cell1
  have hb0 := Below.refl W3.heap.size W3
  have hw0 := HBW.out
  have cc := cn W3 hw0
  go_wp2_with fail
  refine cc.mono ?_
  rintro e V1 ⟨v1, rfl, hm1, hn1⟩
  have hb1 := hb0.trans (hn1.mono hb0.size)
  have hw1 := hw0.trans (hn1.mono hw0.size)
  subst hm1
  clear cc hb0 hw0 hn1
  clear k0_0 k0_1 k1_0 k1_1
  have k0_0 := (HF.out.below hb1 HF.out.lt).cell0
  have k0_1 := (HF.out.below hb1 HF.out.lt).cell1
  have k1_0 := (HG.out.below hb1 HG.out.lt).cell0
  have k1_1 := (HG.out.below hb1 HG.out.lt).cell1
  obtain ⟨NB, hNB⟩ : ∃ NB, NB = V1.heap.size := ⟨_, rfl⟩
  obtain ⟨U, hU⟩ : ∃ U, U = V1.alloc (.cells #[.int .i64 0, .int .i64 0] 23) := ⟨_, rfl⟩
  have HU := Lib.hid (show U = _ ∧ NB = _ from ⟨hU, hNB⟩)
  clear hU hNB k0_0 k0_1 k1_0 k1_1
  go_upto_region 2 with fail
  rw [← HU.out.2, ← HU.out.1]
  have hbU : Below V1.heap.size V1 U := by rw [HU.out.1]; exact (Below.refl _ _).alloc (Nat.le_refl _) _
  have XF := Lib.hid ((HF.out.below hb1 HF.out.lt).below hbU (HF.out.below hb1 HF.out.lt).lt)
  have XG := Lib.hid ((HG.out.below hb1 HG.out.lt).below hbU (HG.out.below hb1 HG.out.lt).lt)
  have XW := Lib.hid (hw1.trans (hbU.mono hw1.size))
  clear HU hbU hb1 hw1 HF HG HBW
  have k0_0 := XF.out.cell0
  have k0_1 := XF.out.cell1
  have k1_0 := XG.out.cell0
  have k1_1 := XG.out.cell1
  have hb10 := Below.refl U.heap.size U
  have hw10 := XW.out
  have cc := cv1 U hw10
  go_wp2_with fail
  refine cc.mono ?_
  rintro e V11 ⟨v11, rfl, hm11, hn11⟩
  have hb11 := hb10.trans (hn11.mono hb10.size)
  have hw11 := hw10.trans (hn11.mono hw10.size)
  subst hm11
  clear cc hb10 hw10 hn11
  clear k0_0 k0_1 k1_0 k1_1
  have k0_0 := (XF.out.below hb11 XF.out.lt).cell0
  have k0_1 := (XF.out.below hb11 XF.out.lt).cell1
  have k1_0 := (XG.out.below hb11 XG.out.lt).cell0
  have k1_1 := (XG.out.below hb11 XG.out.lt).cell1
  have cc := cl V11 hw11
  go_wp2_with fail
  refine cc.mono ?_
  rintro e V12 ⟨v12, rfl, hm12, hn12⟩
  have hb12 := hb11.trans (hn12.mono hb11.size)
  have hw12 := hw11.trans (hn12.mono hw11.size)
  subst hm12
  clear cc hb11 hw11 hn12
  clear k0_0 k0_1 k1_0 k1_1
  have k0_0 := (XF.out.below hb12 XF.out.lt).cell0
  have k0_1 := (XF.out.below hb12 XF.out.lt).cell1
  have k1_0 := (XG.out.below hb12 XG.out.lt).cell0
  have k1_1 := (XG.out.below hb12 XG.out.lt).cell1
  have HE := Lib.hid hw12
  clear hb12 hw12
  go_wp2
  go_ret
  exact ⟨rfl, HE.out⟩

set_option maxRecDepth 100000 in
set_option maxHeartbeats 3200000 in
theorem near_d (p q most r s : Int) (w : World) (h : FOk (p, q)) (hm : 1 ≤ most) (hm2 : most ≤ 4611686018427387904) (h2 : ¬ FOk (r, s)) :
    Calls Try.prog 8 #[.agg #[.int .i64 p, .int .i64 q], .int .i64 most, .agg #[.int .i64 r, .int .i64 s]] w (RetV (.bool true) w) := by
  have cn : ∀ W (_ : Below w.heap.size w W), Calls Try.prog 21 #[.agg #[.int .i64 p, .int .i64 q], .int .i64 most] W (RetNear p q most W) := fun W _ => nearest_ok p q most W h hm hm2
  have cl := lives_y (w := w)
  have cv1 := valid_y p q true (decide_eq_true h) (w := w)
  have cv2 := valid_y r s false (decide_eq_false h2) (w := w)
  clear h h2
  have m1 : ¬ most < 1 := by omega
  have m2 : ¬ 4611686018427387904 < most := by omega
  have HM := Lib.hid hm2
  clear hm hm2
  obtain ⟨W3, hW3⟩ : ∃ W3, W3 = ((w.alloc (.cells #[.int .i64 p, .int .i64 q] 23)).alloc (.cells #[.int .i64 r, .int .i64 s] 23)) := ⟨_, rfl⟩
  have hB : Below w.heap.size w W3 := by rw [hW3]; exact (((Below.refl _ _).alloc (Nat.le_refl _) _).alloc (by simp; try omega) _)
  have HBW := Lib.hid hB
  have HF := Lib.hid (show Two W3 (w.heap.size) (.int .i64 p) (.int .i64 q) 23 by rw [hW3]; exact (((Two.newAt _ _ _ _ _ (by simp))).alloc _))
  have HG := Lib.hid (show Two W3 (w.heap.size + 1) (.int .i64 r) (.int .i64 s) 23 by rw [hW3]; exact (Two.newAt _ _ _ _ _ (by simp)))
  clear hB
  go_enter Try.func8, Try.ntmps8
  go_upto_region 1 with fail
  rw [← hW3]
  clear hW3
  have k0_0 := HF.out.cell0
  have k0_1 := HF.out.cell1
  have k1_0 := HG.out.cell0
  have k1_1 := HG.out.cell1
  have cc := cn W3 HBW.out
  go_wp2_with fail
  refine cc.mono ?_
  rintro e V1 ⟨n, d, rfl, hN, hn1, hn⟩
  clear cc cn k0_0 k0_1 k1_0 k1_1
  have cv3 := valid_y n d true (decide_eq_true (hN.fok HM.out hn1)) (w := w)
  have hdm : ¬ most < d := by have := hN.dm; omega
  clear hN hn1
  obtain ⟨NB, hNB⟩ : ∃ NB, NB = V1.heap.size := ⟨_, rfl⟩
  obtain ⟨U, hU⟩ : ∃ U, U = V1.alloc (.cells #[.int .i64 n, .int .i64 d] 23) := ⟨_, rfl⟩
  have HU := Lib.hid (show U = _ ∧ NB = _ from ⟨hU, hNB⟩)
  clear hU hNB
  go_upto_region 2 with fail
  rw [← HU.out.2, ← HU.out.1]
  have hbU : Below W3.heap.size W3 U := by rw [HU.out.1]; exact hn.alloc hn.size _
  have XF := Lib.hid (HF.out.below hbU HF.out.lt)
  have XG := Lib.hid (HG.out.below hbU HG.out.lt)
  have XN := Lib.hid (show Two U NB (.int .i64 n) (.int .i64 d) 23 by rw [HU.out.1, HU.out.2]; exact Two.newAt _ _ _ _ _ rfl)
  have XW := Lib.hid (HBW.out.trans (hbU.mono HBW.out.size))
  clear HU hbU hn HF HG HBW
  have k0_0 := XF.out.cell0
  have k0_1 := XF.out.cell1
  have k1_0 := XG.out.cell0
  have k1_1 := XG.out.cell1
  have k2_0 := XN.out.cell0
  have k2_1 := XN.out.cell1
  have hb10 := Below.refl U.heap.size U
  have hw10 := XW.out
  have cc := cv1 U hw10
  go_wp2_with fail
  refine cc.mono ?_
  rintro e V11 ⟨v11, rfl, hm11, hn11⟩
  have hb11 := hb10.trans (hn11.mono hb10.size)
  have hw11 := hw10.trans (hn11.mono hw10.size)
  subst hm11
  clear cc hb10 hw10 hn11
  clear k0_0 k0_1 k1_0 k1_1 k2_0 k2_1
  have k0_0 := (XF.out.below hb11 XF.out.lt).cell0
  have k0_1 := (XF.out.below hb11 XF.out.lt).cell1
  have k1_0 := (XG.out.below hb11 XG.out.lt).cell0
  have k1_1 := (XG.out.below hb11 XG.out.lt).cell1
  have k2_0 := (XN.out.below hb11 XN.out.lt).cell0
  have k2_1 := (XN.out.below hb11 XN.out.lt).cell1
  have cc := cv3 V11 hw11
  go_wp2_with fail
  refine cc.mono ?_
  rintro e V12 ⟨v12, rfl, hm12, hn12⟩
  have hb12 := hb11.trans (hn12.mono hb11.size)
  have hw12 := hw11.trans (hn12.mono hw11.size)
  subst hm12
  clear cc hb11 hw11 hn12
  clear k0_0 k0_1 k1_0 k1_1 k2_0 k2_1
  have k0_0 := (XF.out.below hb12 XF.out.lt).cell0
  have k0_1 := (XF.out.below hb12 XF.out.lt).cell1
  have k1_0 := (XG.out.below hb12 XG.out.lt).cell0
  have k1_1 := (XG.out.below hb12 XG.out.lt).cell1
  have k2_0 := (XN.out.below hb12 XN.out.lt).cell0
  have k2_1 := (XN.out.below hb12 XN.out.lt).cell1
  have cc := cl V12 hw12
  go_wp2_with fail
  refine cc.mono ?_
  rintro e V13 ⟨v13, rfl, hm13, hn13⟩
  have hb13 := hb12.trans (hn13.mono hb12.size)
  have hw13 := hw12.trans (hn13.mono hw12.size)
  subst hm13
  clear cc hb12 hw12 hn13
  clear k0_0 k0_1 k1_0 k1_1 k2_0 k2_1
  have k0_0 := (XF.out.below hb13 XF.out.lt).cell0
  have k0_1 := (XF.out.below hb13 XF.out.lt).cell1
  have k1_0 := (XG.out.below hb13 XG.out.lt).cell0
  have k1_1 := (XG.out.below hb13 XG.out.lt).cell1
  have k2_0 := (XN.out.below hb13 XN.out.lt).cell0
  have k2_1 := (XN.out.below hb13 XN.out.lt).cell1
  have cc := cv2 V13 hw13
  go_wp2_with fail
  refine cc.mono ?_
  rintro e V14 ⟨v14, rfl, hm14, hn14⟩
  have hb14 := hb13.trans (hn14.mono hb13.size)
  have hw14 := hw13.trans (hn14.mono hw13.size)
  subst hm14
  clear cc hb13 hw13 hn14
  clear k0_0 k0_1 k1_0 k1_1 k2_0 k2_1
  have k0_0 := (XF.out.below hb14 XF.out.lt).cell0
  have k0_1 := (XF.out.below hb14 XF.out.lt).cell1
  have k1_0 := (XG.out.below hb14 XG.out.lt).cell0
  have k1_1 := (XG.out.below hb14 XG.out.lt).cell1
  have k2_0 := (XN.out.below hb14 XN.out.lt).cell0
  have k2_1 := (XN.out.below hb14 XN.out.lt).cell1
  have HE := Lib.hid hw14
  clear hb14 hw14
  go_wp2
  go_ret
  exact ⟨rfl, HE.out⟩

set_option maxRecDepth 100000 in
set_option maxHeartbeats 3200000 in
theorem near_e (p q most r s : Int) (w : World) (h : FOk (p, q)) (hm : 1 ≤ most) (hm2 : most ≤ 4611686018427387904) (h2 : FOk (r, s)) (hs : most < s) :
    Calls Try.prog 8 #[.agg #[.int .i64 p, .int .i64 q], .int .i64 most, .agg #[.int .i64 r, .int .i64 s]] w (RetV (.bool true) w) := by
  have cn : ∀ W (_ : Below w.heap.size w W), Calls Try.prog 21 #[.agg #[.int .i64 p, .int .i64 q], .int .i64 most] W (RetNear p q most W) := fun W _ => nearest_ok p q most W h hm hm2
  have cl := lives_y (w := w)
  have cv1 := valid_y p q true (decide_eq_true h) (w := w)
  have cv2 := valid_y r s true (decide_eq_true h2) (w := w)
  clear h h2
  have m1 : ¬ most < 1 := by omega
  have m2 : ¬ 4611686018427387904 < most := by omega
  have HM := Lib.hid hm2
  clear hm hm2
  obtain ⟨W3, hW3⟩ : ∃ W3, W3 = ((w.alloc (.cells #[.int .i64 p, .int .i64 q] 23)).alloc (.cells #[.int .i64 r, .int .i64 s] 23)) := ⟨_, rfl⟩
  have hB : Below w.heap.size w W3 := by rw [hW3]; exact (((Below.refl _ _).alloc (Nat.le_refl _) _).alloc (by simp; try omega) _)
  have HBW := Lib.hid hB
  have HF := Lib.hid (show Two W3 (w.heap.size) (.int .i64 p) (.int .i64 q) 23 by rw [hW3]; exact (((Two.newAt _ _ _ _ _ (by simp))).alloc _))
  have HG := Lib.hid (show Two W3 (w.heap.size + 1) (.int .i64 r) (.int .i64 s) 23 by rw [hW3]; exact (Two.newAt _ _ _ _ _ (by simp)))
  clear hB
  go_enter Try.func8, Try.ntmps8
  go_upto_region 1 with fail
  rw [← hW3]
  clear hW3
  have k0_0 := HF.out.cell0
  have k0_1 := HF.out.cell1
  have k1_0 := HG.out.cell0
  have k1_1 := HG.out.cell1
  have cc := cn W3 HBW.out
  go_wp2_with fail
  refine cc.mono ?_
  rintro e V1 ⟨n, d, rfl, hN, hn1, hn⟩
  clear cc cn k0_0 k0_1 k1_0 k1_1
  have cv3 := valid_y n d true (decide_eq_true (hN.fok HM.out hn1)) (w := w)
  have hdm : ¬ most < d := by have := hN.dm; omega
  clear hN hn1
  obtain ⟨NB, hNB⟩ : ∃ NB, NB = V1.heap.size := ⟨_, rfl⟩
  obtain ⟨U, hU⟩ : ∃ U, U = V1.alloc (.cells #[.int .i64 n, .int .i64 d] 23) := ⟨_, rfl⟩
  have HU := Lib.hid (show U = _ ∧ NB = _ from ⟨hU, hNB⟩)
  clear hU hNB
  go_upto_region 2 with fail
  rw [← HU.out.2, ← HU.out.1]
  have hbU : Below W3.heap.size W3 U := by rw [HU.out.1]; exact hn.alloc hn.size _
  have XF := Lib.hid (HF.out.below hbU HF.out.lt)
  have XG := Lib.hid (HG.out.below hbU HG.out.lt)
  have XN := Lib.hid (show Two U NB (.int .i64 n) (.int .i64 d) 23 by rw [HU.out.1, HU.out.2]; exact Two.newAt _ _ _ _ _ rfl)
  have XW := Lib.hid (HBW.out.trans (hbU.mono HBW.out.size))
  clear HU hbU hn HF HG HBW
  have k0_0 := XF.out.cell0
  have k0_1 := XF.out.cell1
  have k1_0 := XG.out.cell0
  have k1_1 := XG.out.cell1
  have k2_0 := XN.out.cell0
  have k2_1 := XN.out.cell1
  have hb10 := Below.refl U.heap.size U
  have hw10 := XW.out
  have cc := cv1 U hw10
  go_wp2_with fail
  refine cc.mono ?_
  rintro e V11 ⟨v11, rfl, hm11, hn11⟩
  have hb11 := hb10.trans (hn11.mono hb10.size)
  have hw11 := hw10.trans (hn11.mono hw10.size)
  subst hm11
  clear cc hb10 hw10 hn11
  clear k0_0 k0_1 k1_0 k1_1 k2_0 k2_1
  have k0_0 := (XF.out.below hb11 XF.out.lt).cell0
  have k0_1 := (XF.out.below hb11 XF.out.lt).cell1
  have k1_0 := (XG.out.below hb11 XG.out.lt).cell0
  have k1_1 := (XG.out.below hb11 XG.out.lt).cell1
  have k2_0 := (XN.out.below hb11 XN.out.lt).cell0
  have k2_1 := (XN.out.below hb11 XN.out.lt).cell1
  have cc := cv3 V11 hw11
  go_wp2_with fail
  refine cc.mono ?_
  rintro e V12 ⟨v12, rfl, hm12, hn12⟩
  have hb12 := hb11.trans (hn12.mono hb11.size)
  have hw12 := hw11.trans (hn12.mono hw11.size)
  subst hm12
  clear cc hb11 hw11 hn12
  clear k0_0 k0_1 k1_0 k1_1 k2_0 k2_1
  have k0_0 := (XF.out.below hb12 XF.out.lt).cell0
  have k0_1 := (XF.out.below hb12 XF.out.lt).cell1
  have k1_0 := (XG.out.below hb12 XG.out.lt).cell0
  have k1_1 := (XG.out.below hb12 XG.out.lt).cell1
  have k2_0 := (XN.out.below hb12 XN.out.lt).cell0
  have k2_1 := (XN.out.below hb12 XN.out.lt).cell1
  have cc := cl V12 hw12
  go_wp2_with fail
  refine cc.mono ?_
  rintro e V13 ⟨v13, rfl, hm13, hn13⟩
  have hb13 := hb12.trans (hn13.mono hb12.size)
  have hw13 := hw12.trans (hn13.mono hw12.size)
  subst hm13
  clear cc hb12 hw12 hn13
  clear k0_0 k0_1 k1_0 k1_1 k2_0 k2_1
  have k0_0 := (XF.out.below hb13 XF.out.lt).cell0
  have k0_1 := (XF.out.below hb13 XF.out.lt).cell1
  have k1_0 := (XG.out.below hb13 XG.out.lt).cell0
  have k1_1 := (XG.out.below hb13 XG.out.lt).cell1
  have k2_0 := (XN.out.below hb13 XN.out.lt).cell0
  have k2_1 := (XN.out.below hb13 XN.out.lt).cell1
  have cc := cv2 V13 hw13
  go_wp2_with fail
  refine cc.mono ?_
  rintro e V14 ⟨v14, rfl, hm14, hn14⟩
  have hb14 := hb13.trans (hn14.mono hb13.size)
  have hw14 := hw13.trans (hn14.mono hw13.size)
  subst hm14
  clear cc hb13 hw13 hn14
  clear k0_0 k0_1 k1_0 k1_1 k2_0 k2_1
  have k0_0 := (XF.out.below hb14 XF.out.lt).cell0
  have k0_1 := (XF.out.below hb14 XF.out.lt).cell1
  have k1_0 := (XG.out.below hb14 XG.out.lt).cell0
  have k1_1 := (XG.out.below hb14 XG.out.lt).cell1
  have k2_0 := (XN.out.below hb14 XN.out.lt).cell0
  have k2_1 := (XN.out.below hb14 XN.out.lt).cell1
  have HE := Lib.hid hw14
  clear hb14 hw14
  go_wp2
  go_ret
  exact ⟨rfl, HE.out⟩

set_option maxRecDepth 100000 in
set_option maxHeartbeats 3200000 in
theorem near_f (p q most r s : Int) (w : World) (h : FOk (p, q)) (hm : 1 ≤ most) (hm2 : most ≤ 4611686018427387904) (h2 : FOk (r, s)) (hs : s ≤ most) :
    Calls Try.prog 8 #[.agg #[.int .i64 p, .int .i64 q], .int .i64 most, .agg #[.int .i64 r, .int .i64 s]] w (RetV (.bool true) w) := by
  have cn : ∀ W (_ : Below w.heap.size w W), Calls Try.prog 21 #[.agg #[.int .i64 p, .int .i64 q], .int .i64 most] W (RetNear p q most W) := fun W _ => nearest_ok p q most W h hm hm2
  have cl := lives_y (w := w)
  have cv1 := valid_y p q true (decide_eq_true h) (w := w)
  have cv2 := valid_y r s true (decide_eq_true h2) (w := w)
  have HX := Lib.hid h
  have HY := Lib.hid h2
  clear h h2
  have m1 : ¬ most < 1 := by omega
  have m2 : ¬ 4611686018427387904 < most := by omega
  have HM := Lib.hid hm2
  clear hm hm2
  obtain ⟨W3, hW3⟩ : ∃ W3, W3 = ((w.alloc (.cells #[.int .i64 p, .int .i64 q] 23)).alloc (.cells #[.int .i64 r, .int .i64 s] 23)) := ⟨_, rfl⟩
  have hB : Below w.heap.size w W3 := by rw [hW3]; exact (((Below.refl _ _).alloc (Nat.le_refl _) _).alloc (by simp; try omega) _)
  have HBW := Lib.hid hB
  have HF := Lib.hid (show Two W3 (w.heap.size) (.int .i64 p) (.int .i64 q) 23 by rw [hW3]; exact (((Two.newAt _ _ _ _ _ (by simp))).alloc _))
  have HG := Lib.hid (show Two W3 (w.heap.size + 1) (.int .i64 r) (.int .i64 s) 23 by rw [hW3]; exact (Two.newAt _ _ _ _ _ (by simp)))
  clear hB
  go_enter Try.func8, Try.ntmps8
  go_upto_region 1 with fail
  rw [← hW3]
  clear hW3
  have k0_0 := HF.out.cell0
  have k0_1 := HF.out.cell1
  have k1_0 := HG.out.cell0
  have k1_1 := HG.out.cell1
  have cc := cn W3 HBW.out
  go_wp2_with fail
  refine cc.mono ?_
  rintro e V1 ⟨n, d, rfl, hN, hn1, hn⟩
  clear cc cn k0_0 k0_1 k1_0 k1_1
  have cv3 := valid_y n d true (decide_eq_true (hN.fok HM.out hn1)) (w := w)
  have hdm : ¬ most < d := by have := hN.dm; omega
  have co1 : ∀ W (_ : Below w.heap.size w W), Calls Try.prog 22 #[.agg #[.int .i64 n, .int .i64 d], .agg #[.int .i64 p, .int .i64 q]] W (RetRQ ((n * q - p * d).natAbs : Int) (d * q) 12 W) := fun W _ => roff_any n d p q W (i64_lowf (hN.fok HM.out hn1)).1 (i64_lowf (hN.fok HM.out hn1)).2 (i64_lowf HX.out).1 (i64_lowf HX.out).2
  have co2 : ∀ W (_ : Below w.heap.size w W), Calls Try.prog 22 #[.agg #[.int .i64 r, .int .i64 s], .agg #[.int .i64 p, .int .i64 q]] W (RetRQ ((r * q - p * s).natAbs : Int) (s * q) 12 W) := fun W _ => roff_any r s p q W (i64_lowf HY.out).1 (i64_lowf HY.out).2 (i64_lowf HX.out).1 (i64_lowf HX.out).2
  obtain ⟨sg, hsg⟩ : ∃ sg, sg = sgn (((n * q - p * d).natAbs : Int) * (s * q) - ((r * q - p * s).natAbs : Int) * (d * q)) := ⟨_, rfl⟩
  have co3 : ∀ W (_ : Below w.heap.size w W) u v, IsRQ W u ((n * q - p * d).natAbs : Int) (d * q) 12 → IsRQ W v ((r * q - p * s).natAbs : Int) (s * q) 12 → Calls Try.prog 16 #[u, v] W (RetW (.int .i64 sg) W) := fun W _ u v g1 g2 => by rw [hsg]; exact (rcmpq_any g1 g2 (by omega) (by omega)).mono fun e w' h => RetW.of h
  have HC := Lib.hid (show sg < 0 ∨ (sg = 0 ∧ d < s) ∨ (sg = 0 ∧ d = s ∧ n ≤ r) by
    have q0 : 0 < q := by have := HX.out.1; simp at this; omega
    have s1 : 1 ≤ s := HY.out.1
    rw [near_cmp q0] at hsg
    have a1 := hN.near r s s1 hs
    have a2 := hN.tie r s s1 hs
    have a3 := sgn_cases' (((n * q - p * d).natAbs : Int) * s - ((r * q - p * s).natAbs : Int) * d)
    omega)
  clear hsg
  clear hN hn1
  obtain ⟨NB, hNB⟩ : ∃ NB, NB = V1.heap.size := ⟨_, rfl⟩
  obtain ⟨U, hU⟩ : ∃ U, U = V1.alloc (.cells #[.int .i64 n, .int .i64 d] 23) := ⟨_, rfl⟩
  have HU := Lib.hid (show U = _ ∧ NB = _ from ⟨hU, hNB⟩)
  clear hU hNB
  go_upto_region 2 with fail
  rw [← HU.out.2, ← HU.out.1]
  have hbU : Below W3.heap.size W3 U := by rw [HU.out.1]; exact hn.alloc hn.size _
  have XF := Lib.hid (HF.out.below hbU HF.out.lt)
  have XG := Lib.hid (HG.out.below hbU HG.out.lt)
  have XN := Lib.hid (show Two U NB (.int .i64 n) (.int .i64 d) 23 by rw [HU.out.1, HU.out.2]; exact Two.newAt _ _ _ _ _ rfl)
  have XW := Lib.hid (HBW.out.trans (hbU.mono HBW.out.size))
  clear HU hbU hn HF HG HBW
  have k0_0 := XF.out.cell0
  have k0_1 := XF.out.cell1
  have k1_0 := XG.out.cell0
  have k1_1 := XG.out.cell1
  have k2_0 := XN.out.cell0
  have k2_1 := XN.out.cell1
  have hb10 := Below.refl U.heap.size U
  have hw10 := XW.out
  have cc := cv1 U hw10
  go_wp2_with fail
  refine cc.mono ?_
  rintro e V11 ⟨v11, rfl, hm11, hn11⟩
  have hb11 := hb10.trans (hn11.mono hb10.size)
  have hw11 := hw10.trans (hn11.mono hw10.size)
  subst hm11
  clear cc hb10 hw10 hn11
  clear k0_0 k0_1 k1_0 k1_1 k2_0 k2_1
  have k0_0 := (XF.out.below hb11 XF.out.lt).cell0
  have k0_1 := (XF.out.below hb11 XF.out.lt).cell1
  have k1_0 := (XG.out.below hb11 XG.out.lt).cell0
  have k1_1 := (XG.out.below hb11 XG.out.lt).cell1
  have k2_0 := (XN.out.below hb11 XN.out.lt).cell0
  have k2_1 := (XN.out.below hb11 XN.out.lt).cell1
  have cc := cv3 V11 hw11
  go_wp2_with fail
  refine cc.mono ?_
  rintro e V12 ⟨v12, rfl, hm12, hn12⟩
  have hb12 := hb11.trans (hn12.mono hb11.size)
  have hw12 := hw11.trans (hn12.mono hw11.size)
  subst hm12
  clear cc hb11 hw11 hn12
  clear k0_0 k0_1 k1_0 k1_1 k2_0 k2_1
  have k0_0 := (XF.out.below hb12 XF.out.lt).cell0
  have k0_1 := (XF.out.below hb12 XF.out.lt).cell1
  have k1_0 := (XG.out.below hb12 XG.out.lt).cell0
  have k1_1 := (XG.out.below hb12 XG.out.lt).cell1
  have k2_0 := (XN.out.below hb12 XN.out.lt).cell0
  have k2_1 := (XN.out.below hb12 XN.out.lt).cell1
  have cc := cl V12 hw12
  go_wp2_with fail
  refine cc.mono ?_
  rintro e V13 ⟨v13, rfl, hm13, hn13⟩
  have hb13 := hb12.trans (hn13.mono hb12.size)
  have hw13 := hw12.trans (hn13.mono hw12.size)
  subst hm13
  clear cc hb12 hw12 hn13
  clear k0_0 k0_1 k1_0 k1_1 k2_0 k2_1
  have k0_0 := (XF.out.below hb13 XF.out.lt).cell0
  have k0_1 := (XF.out.below hb13 XF.out.lt).cell1
  have k1_0 := (XG.out.below hb13 XG.out.lt).cell0
  have k1_1 := (XG.out.below hb13 XG.out.lt).cell1
  have k2_0 := (XN.out.below hb13 XN.out.lt).cell0
  have k2_1 := (XN.out.below hb13 XN.out.lt).cell1
  have cc := cv2 V13 hw13
  go_wp2_with fail
  refine cc.mono ?_
  rintro e V14 ⟨v14, rfl, hm14, hn14⟩
  have hb14 := hb13.trans (hn14.mono hb13.size)
  have hw14 := hw13.trans (hn14.mono hw13.size)
  subst hm14
  clear cc hb13 hw13 hn14
  clear k0_0 k0_1 k1_0 k1_1 k2_0 k2_1
  have k0_0 := (XF.out.below hb14 XF.out.lt).cell0
  have k0_1 := (XF.out.below hb14 XF.out.lt).cell1
  have k1_0 := (XG.out.below hb14 XG.out.lt).cell0
  have k1_1 := (XG.out.below hb14 XG.out.lt).cell1
  have k2_0 := (XN.out.below hb14 XN.out.lt).cell0
  have k2_1 := (XN.out.below hb14 XN.out.lt).cell1
  have YF := Lib.hid (XF.out.below hb14 XF.out.lt)
  have YG := Lib.hid (XG.out.below hb14 XG.out.lt)
  have YN := Lib.hid (XN.out.below hb14 XN.out.lt)
  have YW := Lib.hid hw14
  clear hb14 hw14 XF XG XN XW
  clear k0_0 k0_1 k1_0 k1_1 k2_0 k2_1
  have k0_0 := YG.out.cell0
  have k0_1 := YG.out.cell1
  go_upto_region 8 with fail
  clear k0_0 k0_1
  refine Lex.wp_region_lex (fun w' => Two w' w.heap.size (.int .i64 p) (.int .i64 q) 23 ∧ Two w' (w.heap.size + 1) (.int .i64 r) (.int .i64 s) 23 ∧ Two w' NB (.int .i64 n) (.int .i64 d) 23) (fun _ => true)
    [(0, true), (1, true), (3, true), (4, true), (2, false), (5, false), (6, false), (7, false)]
    (by kernel_rfl) (by kernel_rfl) (by kernel_rfl) (by kernel_rfl) ⟨YF.out, YG.out, YN.out⟩ ?_
  have hb20 : Below V14.heap.size V14 V14.drew := ⟨rfl, rfl, rfl, Nat.le_refl _, fun _ _ => rfl⟩
  have hw20 : Below w.heap.size w V14.drew := ⟨YW.out.os, YW.out.tape, YW.out.output, YW.out.size, YW.out.block⟩
  generalize hV0 : V14.drew = V20 at *
  clear hV0
  refine Lex.lex_take (v := ?_) rfl rfl (by rfl) (fun _ hS => ?_) ?_; rotate_left 1; (focus (have g0_0 := hS.1.cell0; have g0_1 := hS.1.cell1; have g1_0 := hS.2.1.cell0; have g1_1 := hS.2.1.cell1; have g2_0 := hS.2.2.cell0; have g2_1 := hS.2.2.cell1; clear hS; go_simp; with_reducible rfl)); simp only [List.setIfInBounds_toArray, List.set_cons_zero, List.set_cons_succ]
  refine Lex.lex_take (v := ?_) rfl rfl (by rfl) (fun _ hS => ?_) ?_; rotate_left 1; (focus (have g0_0 := hS.1.cell0; have g0_1 := hS.1.cell1; have g1_0 := hS.2.1.cell0; have g1_1 := hS.2.1.cell1; have g2_0 := hS.2.2.cell0; have g2_1 := hS.2.2.cell1; clear hS; go_simp; with_reducible rfl)); simp only [List.setIfInBounds_toArray, List.set_cons_zero, List.set_cons_succ]
  refine Lex.lex_take (v := ?_) rfl rfl (by rfl) (fun _ hS => ?_) ?_; rotate_left 1; (focus (have g0_0 := hS.1.cell0; have g0_1 := hS.1.cell1; have g1_0 := hS.2.1.cell0; have g1_1 := hS.2.1.cell1; have g2_0 := hS.2.2.cell0; have g2_1 := hS.2.2.cell1; clear hS; go_simp; with_reducible rfl)); simp only [List.setIfInBounds_toArray, List.set_cons_zero, List.set_cons_succ]
  refine Lex.lex_take (v := ?_) rfl rfl (by rfl) (fun _ hS => ?_) ?_; rotate_left 1; (focus (have g0_0 := hS.1.cell0; have g0_1 := hS.1.cell1; have g1_0 := hS.2.1.cell0; have g1_1 := hS.2.1.cell1; have g2_0 := hS.2.2.cell0; have g2_1 := hS.2.2.cell1; clear hS; go_simp; with_reducible rfl)); simp only [List.setIfInBounds_toArray, List.set_cons_zero, List.set_cons_succ]
  refine Lex.lex_do rfl ?_
  have cc := co1 V20 hw20
  go_wp2_with fail
  refine cc.mono ?_
  rintro e V21 ⟨v21, rfl, hm21, hn21⟩
  have hb21 := hb20.trans (hn21.mono hb20.size)
  have hw21 := hw20.trans (hn21.mono hw20.size)
  clear cc hb20 hw20 hn21
  go_wp2_with fail
  refine Lex.lexQ_normal (fun _ => ⟨YF.out.below hb21 YF.out.lt, YG.out.below hb21 YG.out.lt, YN.out.below hb21 YN.out.lt⟩) ?_
  refine Lex.lex_do rfl ?_
  have cc := co2 V21 hw21
  go_wp2_with fail
  refine cc.mono ?_
  rintro e V22 ⟨v22, rfl, hm22, hn22⟩
  have hb22 := hb21.trans (hn22.mono hb21.size)
  have hw22 := hw21.trans (hn22.mono hw21.size)
  have hm21 := hm21.below hn22
  clear cc hb21 hw21 hn22
  go_wp2_with fail
  refine Lex.lexQ_normal (fun _ => ⟨YF.out.below hb22 YF.out.lt, YG.out.below hb22 YG.out.lt, YN.out.below hb22 YN.out.lt⟩) ?_
  refine Lex.lex_do rfl ?_
  have cc := co3 V22 hw22 _ _ hm21 hm22
  go_wp2_with fail
  refine cc.mono ?_
  rintro e V23 ⟨v23, rfl, hm23, hn23⟩
  have hb23 := hb22.trans (hn23.mono hb22.size)
  have hw23 := hw22.trans (hn23.mono hw22.size)
  clear hm21 hm22
  subst hm23
  clear cc hb22 hw22 hn23
  go_wp2_with fail
  refine Lex.lexQ_normal (fun _ => ⟨YF.out.below hb23 YF.out.lt, YG.out.below hb23 YG.out.lt, YN.out.below hb23 YN.out.lt⟩) ?_
  refine Lex.lex_do rfl ?_
  go_wp2_with fail
  refine Lex.lexQ_normal (fun _ => ⟨YF.out.below hb23 YF.out.lt, YG.out.below hb23 YG.out.lt, YN.out.below hb23 YN.out.lt⟩) ?_
  refine Lex.lex_nil ?_
  have k0_0 := (YG.out.below hb23 YG.out.lt).cell0
  have k0_1 := (YG.out.below hb23 YG.out.lt).cell1
  have k1_0 := (YN.out.below hb23 YN.out.lt).cell0
  have k1_1 := (YN.out.below hb23 YN.out.lt).cell1
  have HE := Lib.hid hw23
  clear hb23 hw23 YF YG YN YW
  rcases HC.out with d1 | ⟨rfl, d1⟩ | ⟨rfl, rfl, d1⟩
  all_goals
    clear HC
    go_wp2
    go_ret
    exact ⟨rfl, HE.out⟩

theorem near_all (p q most r s : Int) (w : World) (hp : I64 p) (hq : I64 q) :
    Calls Try.prog 8 #[.agg #[.int .i64 p, .int .i64 q], .int .i64 most, .agg #[.int .i64 r, .int .i64 s]] w (RetV (.bool true) w) := by
  by_cases h : FOk (p, q)
  · by_cases hm : most < 1
    · exact near_b p q most r s w h hm
    · by_cases hm2 : 4611686018427387904 < most
      · exact near_c p q most r s w h hm hm2
      · by_cases h2 : FOk (r, s)
        · by_cases hs : most < s
          · exact near_e p q most r s w h (by omega) (by omega) h2 hs
          · exact near_f p q most r s w h (by omega) (by omega) h2 (by omega)
        · exact near_d p q most r s w h (by omega) (by omega) h2
  · exact near_a p q most r s w hp hq h

end Go.Proofs.Ytklngjjokbhfpaa
