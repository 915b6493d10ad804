/- The walk of GearOwn (printed by geneh.py). -/
import Derived.Test.YtklngjjokbhfpaaEg
namespace Go.Proofs.Ytklngjjokbhfpaa
open Go.RowKit

theorem mask20 (x : Int) : 0 ≤ bits BinOp.and .i64 x 1048575 ∧ bits BinOp.and .i64 x 1048575 ≤ 1048575 := by
  have e2 : (BitVec.ofInt 64 (1048575 : Int)).toNat = 1048575 := by decide
  have h : (BitVec.ofInt 64 x &&& BitVec.ofInt 64 (1048575 : Int)).toNat ≤ 1048575 := by
    rw [BitVec.toNat_and, e2]
    exact Nat.and_le_right
  have e : bits BinOp.and .i64 x 1048575 = IntKind.i64.wrap (((BitVec.ofInt 64 x) &&& (BitVec.ofInt 64 (1048575 : Int))).toNat : Int) := rfl
  rw [e, IntWalk.i64_in _ (by omega)]
  omega

set_option maxRecDepth 100000 in
set_option maxHeartbeats 1600000 in
theorem own_a (p q most more : Int) (w : World) (h : ¬ FOk (p, q)) :
    Calls Try.prog 9 #[.agg #[.int .i64 p, .int .i64 q], .int .i64 most, .int .i64 more] w (RetV (.bool true) w) := by
  have cv := valid_y p q false (decide_eq_false h) (w := w)
  have cl := lives_y (w := w)
  clear h
  obtain ⟨W3, hW3⟩ : ∃ W3, W3 = (w.alloc (.cells #[.int .i64 p, .int .i64 q] 23)) := ⟨_, rfl⟩
  have hB : Below w.heap.size w W3 := by rw [hW3]; exact ((Below.refl _ _).alloc (Nat.le_refl _) _)
  have HBW := Lib.hid hB
  have HF := Lib.hid (show Two W3 (w.heap.size) (.int .i64 p) (.int .i64 q) 23 by rw [hW3]; exact (Two.newAt _ _ _ _ _ (by simp)))
  clear hB
  go_enter Try.func9, Try.ntmps9
  go_upto_region 1 with fail
  rw [← hW3]
  clear hW3
  have k0_0 := HF.out.cell0
  have k0_1 := HF.out.cell1
  have hb0 := Below.refl W3.heap.size W3
  have hw0 := HBW.out
  have cc := cv W3 hw0
  go_wp2_with fail
  refine cc.mono ?_
  rintro e V1 ⟨v1, rfl, hm1, hn1⟩
  have hb1 := hb0.trans (hn1.mono hb0.size)
  have hw1 := hw0.trans (hn1.mono hw0.size)
  subst hm1
  clear cc hb0 hw0 hn1
  clear k0_0 k0_1
  have k0_0 := (HF.out.below hb1 HF.out.lt).cell0
  have k0_1 := (HF.out.below hb1 HF.out.lt).cell1
  have cc := cl V1 hw1
  go_wp2_with fail
  refine cc.mono ?_
  rintro e V2 ⟨v2, rfl, hm2, hn2⟩
  have hb2 := hb1.trans (hn2.mono hb1.size)
  have hw2 := hw1.trans (hn2.mono hw1.size)
  subst hm2
  clear cc hb1 hw1 hn2
  clear k0_0 k0_1
  have k0_0 := (HF.out.below hb2 HF.out.lt).cell0
  have k0_1 := (HF.out.below hb2 HF.out.lt).cell1
  have HE := Lib.hid hw2
  clear hb2 hw2
  go_wp2
  go_ret
  exact ⟨rfl, HE.out⟩

set_option maxRecDepth 100000 in
set_option maxHeartbeats 6400000 in
theorem own_b (p q most more : Int) (w : World) (h : FOk (p, q)) :
    Calls Try.prog 9 #[.agg #[.int .i64 p, .int .i64 q], .int .i64 most, .int .i64 more] w (RetV (.bool true) w) := by
  have cv := valid_y p q true (decide_eq_true h) (w := w)
  have cl := lives_y (w := w)
  obtain ⟨m1, hm1⟩ : ∃ m1, m1 = bits BinOp.and .i64 most 1048575 := ⟨_, rfl⟩
  obtain ⟨m2, hm2⟩ : ∃ m2, m2 = bits BinOp.and .i64 more 1048575 := ⟨_, rfl⟩
  have b1 := mask20 most
  have b2 := mask20 more
  rw [← hm1] at b1
  rw [← hm2] at b2
  have e1 : bits BinOp.and .i64 most 1048575 = m1 := hm1.symm
  have e2 : bits BinOp.and .i64 more 1048575 = m2 := hm2.symm
  obtain ⟨a, ha⟩ : ∃ a, a = m1 + 1 := ⟨_, rfl⟩
  obtain ⟨b, hb⟩ : ∃ b, b = a + m2 := ⟨_, rfl⟩
  have w1 : IntKind.i64.wrap (m1 + 1) = a := by rw [ha]; exact IntWalk.i64_in _ (by omega)
  have w2 : IntKind.i64.wrap (a + m2) = b := by rw [hb]; exact IntWalk.i64_in _ (by omega)
  have ca : ∀ W (_ : Below w.heap.size w W), Calls Try.prog 21 #[.agg #[.int .i64 p, .int .i64 q], .int .i64 a] W (RetNear p q a W) := fun W _ => nearest_ok p q a W h (by omega) (by omega)
  have cb : ∀ W (_ : Below w.heap.size w W), Calls Try.prog 21 #[.agg #[.int .i64 p, .int .i64 q], .int .i64 b] W (RetNear p q b W) := fun W _ => nearest_ok p q b W h (by omega) (by omega)
  have cc0 : ∀ W (_ : Below w.heap.size w W), Calls Try.prog 21 #[.agg #[.int .i64 p, .int .i64 q], .int .i64 q] W (RetW (.tuple #[.agg #[.int .i64 p, .int .i64 q], .int .i64 0]) W) := fun W _ => (nearest_own p q q W h ⟨h.1, h.2.1⟩ (Int.le_refl _)).mono fun e w' h => RetW.of h
  have HX := Lib.hid h
  have HAB := Lib.hid (show 1 ≤ a ∧ a ≤ b ∧ b ≤ 4000000 by omega)
  clear h hm1 hm2 b1 b2 ha hb
  obtain ⟨W3, hW3⟩ : ∃ W3, W3 = (w.alloc (.cells #[.int .i64 p, .int .i64 q] 23)) := ⟨_, rfl⟩
  have hB : Below w.heap.size w W3 := by rw [hW3]; exact ((Below.refl _ _).alloc (Nat.le_refl _) _)
  have HBW := Lib.hid hB
  have HF := Lib.hid (show Two W3 (w.heap.size) (.int .i64 p) (.int .i64 q) 23 by rw [hW3]; exact (Two.newAt _ _ _ _ _ (by simp)))
  clear hB
  go_enter Try.func9, Try.ntmps9
  go_upto_region 1 with fail
  rw [← hW3]
  clear hW3
  have k0 := HF.out.cell0
  have k1 := HF.out.cell1
  have cc := cv _ HBW.out
  go_wp2_with fail
  refine cc.mono ?_
  rintro e V1 ⟨v1, rfl, rfl, hn⟩
  have XF := Lib.hid (HF.out.below hn HF.out.lt)
  have XW := Lib.hid (HBW.out.trans (hn.mono HBW.out.size))
  clear cc cv k0 k1 HF HBW hn
  have YF := Lib.hid XF.out
  have YW := Lib.hid XW.out
  clear XF XW
  go_upto_region 4 with fail
  clear e1 e2
  have k0 := YF.out.cell0
  have k1 := YF.out.cell1
  have cc := ca _ YW.out
  go_wp2_with fail
  refine cc.mono ?_
  rintro e V4 ⟨n1, d1, rfl, hN1, hz1, hn⟩
  clear cc k0 k1 ca
  obtain ⟨N1, hN1⟩ : ∃ N1, N1 = V4.heap.size := ⟨_, rfl⟩
  obtain ⟨U4, hU4⟩ : ∃ U4, U4 = V4.alloc (.cells #[.int .i64 n1, .int .i64 d1] 23) := ⟨_, rfl⟩
  have HU := Lib.hid (show U4 = _ ∧ N1 = _ from ⟨hU4, hN1⟩)
  clear hU4 hN1
  go_upto_region 5 with fail
  rw [← HU.out.2, ← HU.out.1]
  have hbX := hn.alloc hn.size (.cells #[.int .i64 n1, .int .i64 d1] 23)
  rw [← HU.out.1] at hbX
  have TN1 := Lib.hid (show Two U4 N1 (.int .i64 n1) (.int .i64 d1) 23 by rw [HU.out.1, HU.out.2]; exact Two.newAt _ _ _ _ _ rfl)
  have XF := Lib.hid (YF.out.below hbX YF.out.lt)
  have XW := Lib.hid (YW.out.trans (hbX.mono YW.out.size))
  clear HU hbX hn YF YW
  have k0 := XF.out.cell0
  have k1 := XF.out.cell1
  have cc := cb _ XW.out
  go_wp2_with fail
  refine cc.mono ?_
  rintro e V5 ⟨n2, d2, rfl, hN2, hz2, hn⟩
  clear cc k0 k1 cb
  obtain ⟨N2, hN2⟩ : ∃ N2, N2 = V5.heap.size := ⟨_, rfl⟩
  obtain ⟨U5, hU5⟩ : ∃ U5, U5 = V5.alloc (.cells #[.int .i64 n2, .int .i64 d2] 23) := ⟨_, rfl⟩
  have HU := Lib.hid (show U5 = _ ∧ N2 = _ from ⟨hU5, hN2⟩)
  clear hU5 hN2
  go_upto_region 6 with fail
  rw [← HU.out.2, ← HU.out.1]
  have hbX := hn.alloc hn.size (.cells #[.int .i64 n2, .int .i64 d2] 23)
  rw [← HU.out.1] at hbX
  have TN2 := Lib.hid (show Two U5 N2 (.int .i64 n2) (.int .i64 d2) 23 by rw [HU.out.1, HU.out.2]; exact Two.newAt _ _ _ _ _ rfl)
  have YF := Lib.hid (XF.out.below hbX XF.out.lt)
  have X1 := Lib.hid (TN1.out.below hbX TN1.out.lt)
  have YW := Lib.hid (XW.out.trans (hbX.mono XW.out.size))
  clear HU hbX hn XF TN1 XW
  have k0 := YF.out.cell0
  have k1 := YF.out.cell1
  have cc := cc0 _ YW.out
  go_wp2_with fail
  refine cc.mono ?_
  rintro e V6 ⟨v6, rfl, rfl, hn⟩
  clear cc k0 k1 cc0
  obtain ⟨N3, hN3⟩ : ∃ N3, N3 = V6.heap.size := ⟨_, rfl⟩
  obtain ⟨U6, hU6⟩ : ∃ U6, U6 = V6.alloc (.cells #[.int .i64 p, .int .i64 q] 23) := ⟨_, rfl⟩
  have HU := Lib.hid (show U6 = _ ∧ N3 = _ from ⟨hU6, hN3⟩)
  clear hU6 hN3
  go_upto_region 7 with fail
  rw [← HU.out.2, ← HU.out.1]
  have hbX := hn.alloc hn.size (.cells #[.int .i64 p, .int .i64 q] 23)
  rw [← HU.out.1] at hbX
  have TN3 := Lib.hid (show Two U6 N3 (.int .i64 p) (.int .i64 q) 23 by rw [HU.out.1, HU.out.2]; exact Two.newAt _ _ _ _ _ rfl)
  have ZF := Lib.hid (YF.out.below hbX YF.out.lt)
  have Z1 := Lib.hid (X1.out.below hbX X1.out.lt)
  have Z2 := Lib.hid (TN2.out.below hbX TN2.out.lt)
  have ZW := Lib.hid (YW.out.trans (hbX.mono YW.out.size))
  clear HU hbX hn YF X1 TN2 YW
  have g1 := hN1.fok (by have := HAB.out; omega) hz1
  have g2 := hN2.fok (by have := HAB.out; omega) hz2
  have cv1 := valid_y n1 d1 true (decide_eq_true g1) (w := w)
  have cv2 := valid_y n2 d2 true (decide_eq_true g2) (w := w)
  have co1 : ∀ W (_ : Below w.heap.size w W), Calls Try.prog 22 #[.agg #[.int .i64 n2, .int .i64 d2], .agg #[.int .i64 p, .int .i64 q]] W (RetRQ ((n2 * q - p * d2).natAbs : Int) (d2 * q) 12 W) := fun W _ => roff_any n2 d2 p q W (i64_lowf g2).1 (i64_lowf g2).2 (i64_lowf HX.out).1 (i64_lowf HX.out).2
  have co2 : ∀ W (_ : Below w.heap.size w W), Calls Try.prog 22 #[.agg #[.int .i64 n1, .int .i64 d1], .agg #[.int .i64 p, .int .i64 q]] W (RetRQ ((n1 * q - p * d1).natAbs : Int) (d1 * q) 12 W) := fun W _ => roff_any n1 d1 p q W (i64_lowf g1).1 (i64_lowf g1).2 (i64_lowf HX.out).1 (i64_lowf HX.out).2
  obtain ⟨sg, hsg⟩ : ∃ sg, sg = sgn (((n2 * q - p * d2).natAbs : Int) * (d1 * q) - ((n1 * q - p * d1).natAbs : Int) * (d2 * q)) := ⟨_, rfl⟩
  have co3 : ∀ W (_ : Below w.heap.size w W) u v, IsRQ W u ((n2 * q - p * d2).natAbs : Int) (d2 * q) 12 → IsRQ W v ((n1 * q - p * d1).natAbs : Int) (d1 * q) 12 → Calls Try.prog 16 #[u, v] W (RetW (.int .i64 sg) W) := fun W _ u v g1 g2 => by rw [hsg]; exact (rcmpq_any g1 g2 (by omega) (by omega)).mono fun e w' h => RetW.of h
  have hs0 : sg ≤ 0 := by
    have q0 : 0 < q := by have := HX.out.1; simp at this; omega
    rw [near_cmp q0] at hsg
    have a1 := hN2.near n1 d1 hN1.d1 (by have := hN1.dm; have := HAB.out; omega)
    have a3 := sgn_cases' (((n2 * q - p * d2).natAbs : Int) * d1 - ((n1 * q - p * d1).natAbs : Int) * d2)
    omega
  have hcs : a < q ∨ (¬ a < q ∧ n1 = p ∧ d1 = q) := by
    by_cases h : a < q
    · exact .inl h
    · obtain ⟨i1, i2⟩ := hN1.unique (Near.own HX.out.1 (show q ≤ a by omega) HX.out.2.2.2)
      exact .inr ⟨h, i1, i2⟩
  clear hsg g1 g2 hN1 hN2 hz1 hz2 HAB HX
  have k0 := ZF.out.cell0
  have k1 := ZF.out.cell1
  have k2 := Z1.out.cell0
  have k3 := Z1.out.cell1
  have k4 := TN3.out.cell0
  have k5 := TN3.out.cell1
  have cc := cv1 _ ZW.out
  go_wp2_with fail
  refine cc.mono ?_
  rintro e V7 ⟨v7, rfl, rfl, hn⟩
  have YF := Lib.hid (ZF.out.below hn ZF.out.lt)
  have Y1 := Lib.hid (Z1.out.below hn Z1.out.lt)
  have Y2 := Lib.hid (Z2.out.below hn Z2.out.lt)
  have YW := Lib.hid (ZW.out.trans (hn.mono ZW.out.size))
  clear cc cv1 k0 k1 k2 k3 k4 k5 hn ZF Z1 Z2 ZW TN3
  have k0_0 := YF.out.cell0
  have k0_1 := YF.out.cell1
  have k1_0 := Y1.out.cell0
  have k1_1 := Y1.out.cell1
  have k2_0 := Y2.out.cell0
  have k2_1 := Y2.out.cell1
  have hb10 := Below.refl V7.heap.size V7
  have hw10 := YW.out
  have cc := cv2 V7 hw10
  go_wp2_with fail
  refine cc.mono ?_
  rintro e V11 ⟨v11, rfl, hm11, hn11⟩
  have hb11 := hb10.trans (hn11.mono hb10.size)
  have hw11 := hw10.trans (hn11.mono hw10.size)
  subst hm11
  clear cc hb10 hw10 hn11
  clear k0_0 k0_1 k1_0 k1_1 k2_0 k2_1
  have k0_0 := (YF.out.below hb11 YF.out.lt).cell0
  have k0_1 := (YF.out.below hb11 YF.out.lt).cell1
  have k1_0 := (Y1.out.below hb11 Y1.out.lt).cell0
  have k1_1 := (Y1.out.below hb11 Y1.out.lt).cell1
  have k2_0 := (Y2.out.below hb11 Y2.out.lt).cell0
  have k2_1 := (Y2.out.below hb11 Y2.out.lt).cell1
  have cc := cl V11 hw11
  go_wp2_with fail
  refine cc.mono ?_
  rintro e V12 ⟨v12, rfl, hm12, hn12⟩
  have hb12 := hb11.trans (hn12.mono hb11.size)
  have hw12 := hw11.trans (hn12.mono hw11.size)
  subst hm12
  clear cc hb11 hw11 hn12
  clear k0_0 k0_1 k1_0 k1_1 k2_0 k2_1
  have k0_0 := (YF.out.below hb12 YF.out.lt).cell0
  have k0_1 := (YF.out.below hb12 YF.out.lt).cell1
  have k1_0 := (Y1.out.below hb12 Y1.out.lt).cell0
  have k1_1 := (Y1.out.below hb12 Y1.out.lt).cell1
  have k2_0 := (Y2.out.below hb12 Y2.out.lt).cell0
  have k2_1 := (Y2.out.below hb12 Y2.out.lt).cell1
  have XF := Lib.hid (YF.out.below hb12 YF.out.lt)
  have X1 := Lib.hid (Y1.out.below hb12 Y1.out.lt)
  have X2 := Lib.hid (Y2.out.below hb12 Y2.out.lt)
  have XW := Lib.hid hw12
  clear k0_0 k0_1 k1_0 k1_1 k2_0 k2_1 hb12 hw12 YF Y1 Y2 YW cv2 cl
  go_upto_region 9 with fail
  have hd0 : decide (sg ≤ 0) = true := decide_eq_true hs0
  rcases hcs with hq | ⟨hq, rfl, rfl⟩
  · have hdq : decide (a < q) = true := decide_eq_true hq
    refine Lex.wp_region_lex (fun w' => Two w' w.heap.size (.int .i64 p) (.int .i64 q) 23 ∧ Two w' N1 (.int .i64 n1) (.int .i64 d1) 23 ∧ Two w' N2 (.int .i64 n2) (.int .i64 d2) 23) (fun _ => true)
      [(0, true), (1, true), (3, true), (4, true), (2, false), (5, false), (6, false), (7, true), (8, true), (9, true), (10, true), (11, true), (12, true), (13, true), (14, true), (15, true), (16, true), (17, true), (18, true), (19, false)]
      (by kernel_rfl) (by kernel_rfl) (by kernel_rfl) (by kernel_rfl) ⟨XF.out, X1.out, X2.out⟩ ?_
    have hb20 : Below V12.heap.size V12 V12.drew := ⟨rfl, rfl, rfl, Nat.le_refl _, fun _ _ => rfl⟩
    have hw20 : Below w.heap.size w V12.drew := ⟨XW.out.os, XW.out.tape, XW.out.output, XW.out.size, XW.out.block⟩
    generalize hV0 : V12.drew = V20 at *
    clear hV0
    refine Lex.lex_take (v := ?_) rfl rfl (by rfl) (fun _ hS => ?_) ?_; rotate_left 1; (focus (have g0_0 := hS.1.cell0; have g0_1 := hS.1.cell1; have g1_0 := hS.2.1.cell0; have g1_1 := hS.2.1.cell1; have g2_0 := hS.2.2.cell0; have g2_1 := hS.2.2.cell1; clear hS; go_simp; with_reducible rfl)); simp only [List.setIfInBounds_toArray, List.set_cons_zero, List.set_cons_succ]
    refine Lex.lex_take (v := ?_) rfl rfl (by rfl) (fun _ hS => ?_) ?_; rotate_left 1; (focus (have g0_0 := hS.1.cell0; have g0_1 := hS.1.cell1; have g1_0 := hS.2.1.cell0; have g1_1 := hS.2.1.cell1; have g2_0 := hS.2.2.cell0; have g2_1 := hS.2.2.cell1; clear hS; go_simp; with_reducible rfl)); simp only [List.setIfInBounds_toArray, List.set_cons_zero, List.set_cons_succ]
    refine Lex.lex_take (v := ?_) rfl rfl (by rfl) (fun _ hS => ?_) ?_; rotate_left 1; (focus (have g0_0 := hS.1.cell0; have g0_1 := hS.1.cell1; have g1_0 := hS.2.1.cell0; have g1_1 := hS.2.1.cell1; have g2_0 := hS.2.2.cell0; have g2_1 := hS.2.2.cell1; clear hS; go_simp; with_reducible rfl)); simp only [List.setIfInBounds_toArray, List.set_cons_zero, List.set_cons_succ]
    refine Lex.lex_take (v := ?_) rfl rfl (by rfl) (fun _ hS => ?_) ?_; rotate_left 1; (focus (have g0_0 := hS.1.cell0; have g0_1 := hS.1.cell1; have g1_0 := hS.2.1.cell0; have g1_1 := hS.2.1.cell1; have g2_0 := hS.2.2.cell0; have g2_1 := hS.2.2.cell1; clear hS; go_simp; with_reducible rfl)); simp only [List.setIfInBounds_toArray, List.set_cons_zero, List.set_cons_succ]
    refine Lex.lex_do rfl ?_
    have cc := co1 V20 hw20
    go_wp2_with fail
    refine cc.mono ?_
    rintro e V21 ⟨v21, rfl, hm21, hn21⟩
    have hb21 := hb20.trans (hn21.mono hb20.size)
    have hw21 := hw20.trans (hn21.mono hw20.size)
    clear cc hb20 hw20 hn21
    go_wp2_with fail
    refine Lex.lexQ_normal (fun _ => ⟨XF.out.below hb21 XF.out.lt, X1.out.below hb21 X1.out.lt, X2.out.below hb21 X2.out.lt⟩) ?_
    refine Lex.lex_do rfl ?_
    have cc := co2 V21 hw21
    go_wp2_with fail
    refine cc.mono ?_
    rintro e V22 ⟨v22, rfl, hm22, hn22⟩
    have hb22 := hb21.trans (hn22.mono hb21.size)
    have hw22 := hw21.trans (hn22.mono hw21.size)
    have hm21 := hm21.below hn22
    clear cc hb21 hw21 hn22
    go_wp2_with fail
    refine Lex.lexQ_normal (fun _ => ⟨XF.out.below hb22 XF.out.lt, X1.out.below hb22 X1.out.lt, X2.out.below hb22 X2.out.lt⟩) ?_
    refine Lex.lex_do rfl ?_
    have cc := co3 V22 hw22 _ _ hm21 hm22
    go_wp2_with fail
    refine cc.mono ?_
    rintro e V23 ⟨v23, rfl, hm23, hn23⟩
    have hb23 := hb22.trans (hn23.mono hb22.size)
    have hw23 := hw22.trans (hn23.mono hw22.size)
    clear hm21 hm22
    subst hm23
    clear cc hb22 hw22 hn23
    go_wp2_with fail
    refine Lex.lexQ_normal (fun _ => ⟨XF.out.below hb23 XF.out.lt, X1.out.below hb23 X1.out.lt, X2.out.below hb23 X2.out.lt⟩) ?_
    refine Lex.lex_take (v := ?_) rfl rfl (by rfl) (fun _ hS => ?_) ?_; rotate_left 1; (focus (have g0_0 := hS.1.cell0; have g0_1 := hS.1.cell1; have g1_0 := hS.2.1.cell0; have g1_1 := hS.2.1.cell1; have g2_0 := hS.2.2.cell0; have g2_1 := hS.2.2.cell1; clear hS; go_simp; with_reducible rfl)); simp only [List.setIfInBounds_toArray, List.set_cons_zero, List.set_cons_succ]
    refine Lex.lex_take (v := ?_) rfl rfl (by rfl) (fun _ hS => ?_) ?_; rotate_left 1; (focus (have g0_0 := hS.1.cell0; have g0_1 := hS.1.cell1; have g1_0 := hS.2.1.cell0; have g1_1 := hS.2.1.cell1; have g2_0 := hS.2.2.cell0; have g2_1 := hS.2.2.cell1; clear hS; go_simp; with_reducible rfl)); simp only [List.setIfInBounds_toArray, List.set_cons_zero, List.set_cons_succ]
    refine Lex.lex_take (v := ?_) rfl rfl (by rfl) (fun _ hS => ?_) ?_; rotate_left 1; (focus (have g0_0 := hS.1.cell0; have g0_1 := hS.1.cell1; have g1_0 := hS.2.1.cell0; have g1_1 := hS.2.1.cell1; have g2_0 := hS.2.2.cell0; have g2_1 := hS.2.2.cell1; clear hS; go_simp; with_reducible rfl)); simp only [List.setIfInBounds_toArray, List.set_cons_zero, List.set_cons_succ]
    refine Lex.lex_take (v := ?_) rfl rfl (by rfl) (fun _ hS => ?_) ?_; rotate_left 1; (focus (have g0_0 := hS.1.cell0; have g0_1 := hS.1.cell1; have g1_0 := hS.2.1.cell0; have g1_1 := hS.2.1.cell1; have g2_0 := hS.2.2.cell0; have g2_1 := hS.2.2.cell1; clear hS; go_simp; with_reducible rfl)); simp only [List.setIfInBounds_toArray, List.set_cons_zero, List.set_cons_succ]
    refine Lex.lex_take (v := ?_) rfl rfl (by rfl) (fun _ hS => ?_) ?_; rotate_left 1; (focus (have g0_0 := hS.1.cell0; have g0_1 := hS.1.cell1; have g1_0 := hS.2.1.cell0; have g1_1 := hS.2.1.cell1; have g2_0 := hS.2.2.cell0; have g2_1 := hS.2.2.cell1; clear hS; go_simp; with_reducible rfl)); simp only [List.setIfInBounds_toArray, List.set_cons_zero, List.set_cons_succ]
    refine Lex.lex_take (v := ?_) rfl rfl (by rfl) (fun _ hS => ?_) ?_; rotate_left 1; (focus (have g0_0 := hS.1.cell0; have g0_1 := hS.1.cell1; have g1_0 := hS.2.1.cell0; have g1_1 := hS.2.1.cell1; have g2_0 := hS.2.2.cell0; have g2_1 := hS.2.2.cell1; clear hS; go_simp; with_reducible rfl)); simp only [List.setIfInBounds_toArray, List.set_cons_zero, List.set_cons_succ]
    refine Lex.lex_take (v := ?_) rfl rfl (by rfl) (fun _ hS => ?_) ?_; rotate_left 1; (focus (have g0_0 := hS.1.cell0; have g0_1 := hS.1.cell1; have g1_0 := hS.2.1.cell0; have g1_1 := hS.2.1.cell1; have g2_0 := hS.2.2.cell0; have g2_1 := hS.2.2.cell1; clear hS; go_simp; with_reducible rfl)); simp only [List.setIfInBounds_toArray, List.set_cons_zero, List.set_cons_succ]
    refine Lex.lex_skip rfl rfl (by rfl) ?_; simp only [List.setIfInBounds_toArray, List.set_cons_zero, List.set_cons_succ]
    refine Lex.lex_skip rfl rfl (by rfl) ?_; simp only [List.setIfInBounds_toArray, List.set_cons_zero, List.set_cons_succ]
    refine Lex.lex_skip rfl rfl (by rfl) ?_; simp only [List.setIfInBounds_toArray, List.set_cons_zero, List.set_cons_succ]
    refine Lex.lex_take (v := ?_) rfl rfl (by rfl) (fun _ hS => ?_) ?_; rotate_left 1; (focus (have g0_0 := hS.1.cell0; have g0_1 := hS.1.cell1; have g1_0 := hS.2.1.cell0; have g1_1 := hS.2.1.cell1; have g2_0 := hS.2.2.cell0; have g2_1 := hS.2.2.cell1; clear hS; go_simp; with_reducible rfl)); simp only [List.setIfInBounds_toArray, List.set_cons_zero, List.set_cons_succ]
    refine Lex.lex_take (v := ?_) rfl rfl (by rfl) (fun _ hS => ?_) ?_; rotate_left 1; (focus (have g0_0 := hS.1.cell0; have g0_1 := hS.1.cell1; have g1_0 := hS.2.1.cell0; have g1_1 := hS.2.1.cell1; have g2_0 := hS.2.2.cell0; have g2_1 := hS.2.2.cell1; clear hS; go_simp; with_reducible rfl)); simp only [List.setIfInBounds_toArray, List.set_cons_zero, List.set_cons_succ]
    refine Lex.lex_do rfl ?_
    go_wp2_with fail
    refine Lex.lexQ_normal (fun _ => ⟨XF.out.below hb23 XF.out.lt, X1.out.below hb23 X1.out.lt, X2.out.below hb23 X2.out.lt⟩) ?_
    refine Lex.lex_nil ?_
    have HE := Lib.hid hw23
    clear hb23 hw23
    go_wp2
    go_ret
    exact ⟨rfl, HE.out⟩
  · have hdq : decide (a < d1) = false := decide_eq_false (by omega)
    refine Lex.wp_region_lex (fun w' => Two w' w.heap.size (.int .i64 n1) (.int .i64 d1) 23 ∧ Two w' N1 (.int .i64 n1) (.int .i64 d1) 23 ∧ Two w' N2 (.int .i64 n2) (.int .i64 d2) 23) (fun _ => true)
      [(0, true), (1, true), (3, true), (4, true), (2, false), (5, false), (6, false), (7, true), (8, true), (9, true), (10, true), (11, true), (12, true), (13, true), (14, true), (15, true), (16, true), (17, true), (18, true), (19, false)]
      (by kernel_rfl) (by kernel_rfl) (by kernel_rfl) (by kernel_rfl) ⟨XF.out, X1.out, X2.out⟩ ?_
    have hb20 : Below V12.heap.size V12 V12.drew := ⟨rfl, rfl, rfl, Nat.le_refl _, fun _ _ => rfl⟩
    have hw20 : Below w.heap.size w V12.drew := ⟨XW.out.os, XW.out.tape, XW.out.output, XW.out.size, XW.out.block⟩
    generalize hV0 : V12.drew = V20 at *
    clear hV0
    refine Lex.lex_take (v := ?_) rfl rfl (by rfl) (fun _ hS => ?_) ?_; rotate_left 1; (focus (have g0_0 := hS.1.cell0; have g0_1 := hS.1.cell1; have g1_0 := hS.2.1.cell0; have g1_1 := hS.2.1.cell1; have g2_0 := hS.2.2.cell0; have g2_1 := hS.2.2.cell1; clear hS; go_simp; with_reducible rfl)); simp only [List.setIfInBounds_toArray, List.set_cons_zero, List.set_cons_succ]
    refine Lex.lex_take (v := ?_) rfl rfl (by rfl) (fun _ hS => ?_) ?_; rotate_left 1; (focus (have g0_0 := hS.1.cell0; have g0_1 := hS.1.cell1; have g1_0 := hS.2.1.cell0; have g1_1 := hS.2.1.cell1; have g2_0 := hS.2.2.cell0; have g2_1 := hS.2.2.cell1; clear hS; go_simp; with_reducible rfl)); simp only [List.setIfInBounds_toArray, List.set_cons_zero, List.set_cons_succ]
    refine Lex.lex_take (v := ?_) rfl rfl (by rfl) (fun _ hS => ?_) ?_; rotate_left 1; (focus (have g0_0 := hS.1.cell0; have g0_1 := hS.1.cell1; have g1_0 := hS.2.1.cell0; have g1_1 := hS.2.1.cell1; have g2_0 := hS.2.2.cell0; have g2_1 := hS.2.2.cell1; clear hS; go_simp; with_reducible rfl)); simp only [List.setIfInBounds_toArray, List.set_cons_zero, List.set_cons_succ]
    refine Lex.lex_take (v := ?_) rfl rfl (by rfl) (fun _ hS => ?_) ?_; rotate_left 1; (focus (have g0_0 := hS.1.cell0; have g0_1 := hS.1.cell1; have g1_0 := hS.2.1.cell0; have g1_1 := hS.2.1.cell1; have g2_0 := hS.2.2.cell0; have g2_1 := hS.2.2.cell1; clear hS; go_simp; with_reducible rfl)); simp only [List.setIfInBounds_toArray, List.set_cons_zero, List.set_cons_succ]
    refine Lex.lex_do rfl ?_
    have cc := co1 V20 hw20
    go_wp2_with fail
    refine cc.mono ?_
    rintro e V21 ⟨v21, rfl, hm21, hn21⟩
    have hb21 := hb20.trans (hn21.mono hb20.size)
    have hw21 := hw20.trans (hn21.mono hw20.size)
    clear cc hb20 hw20 hn21
    go_wp2_with fail
    refine Lex.lexQ_normal (fun _ => ⟨XF.out.below hb21 XF.out.lt, X1.out.below hb21 X1.out.lt, X2.out.below hb21 X2.out.lt⟩) ?_
    refine Lex.lex_do rfl ?_
    have cc := co2 V21 hw21
    go_wp2_with fail
    refine cc.mono ?_
    rintro e V22 ⟨v22, rfl, hm22, hn22⟩
    have hb22 := hb21.trans (hn22.mono hb21.size)
    have hw22 := hw21.trans (hn22.mono hw21.size)
    have hm21 := hm21.below hn22
    clear cc hb21 hw21 hn22
    go_wp2_with fail
    refine Lex.lexQ_normal (fun _ => ⟨XF.out.below hb22 XF.out.lt, X1.out.below hb22 X1.out.lt, X2.out.below hb22 X2.out.lt⟩) ?_
    refine Lex.lex_do rfl ?_
    have cc := co3 V22 hw22 _ _ hm21 hm22
    go_wp2_with fail
    refine cc.mono ?_
    rintro e V23 ⟨v23, rfl, hm23, hn23⟩
    have hb23 := hb22.trans (hn23.mono hb22.size)
    have hw23 := hw22.trans (hn23.mono hw22.size)
    clear hm21 hm22
    subst hm23
    clear cc hb22 hw22 hn23
    go_wp2_with fail
    refine Lex.lexQ_normal (fun _ => ⟨XF.out.below hb23 XF.out.lt, X1.out.below hb23 X1.out.lt, X2.out.below hb23 X2.out.lt⟩) ?_
    refine Lex.lex_take (v := ?_) rfl rfl (by rfl) (fun _ hS => ?_) ?_; rotate_left 1; (focus (have g0_0 := hS.1.cell0; have g0_1 := hS.1.cell1; have g1_0 := hS.2.1.cell0; have g1_1 := hS.2.1.cell1; have g2_0 := hS.2.2.cell0; have g2_1 := hS.2.2.cell1; clear hS; go_simp; with_reducible rfl)); simp only [List.setIfInBounds_toArray, List.set_cons_zero, List.set_cons_succ]
    refine Lex.lex_take (v := ?_) rfl rfl (by rfl) (fun _ hS => ?_) ?_; rotate_left 1; (focus (have g0_0 := hS.1.cell0; have g0_1 := hS.1.cell1; have g1_0 := hS.2.1.cell0; have g1_1 := hS.2.1.cell1; have g2_0 := hS.2.2.cell0; have g2_1 := hS.2.2.cell1; clear hS; go_simp; with_reducible rfl)); simp only [List.setIfInBounds_toArray, List.set_cons_zero, List.set_cons_succ]
    refine Lex.lex_take (v := ?_) rfl rfl (by rfl) (fun _ hS => ?_) ?_; rotate_left 1; (focus (have g0_0 := hS.1.cell0; have g0_1 := hS.1.cell1; have g1_0 := hS.2.1.cell0; have g1_1 := hS.2.1.cell1; have g2_0 := hS.2.2.cell0; have g2_1 := hS.2.2.cell1; clear hS; go_simp; with_reducible rfl)); simp only [List.setIfInBounds_toArray, List.set_cons_zero, List.set_cons_succ]
    refine Lex.lex_take (v := ?_) rfl rfl (by rfl) (fun _ hS => ?_) ?_; rotate_left 1; (focus (have g0_0 := hS.1.cell0; have g0_1 := hS.1.cell1; have g1_0 := hS.2.1.cell0; have g1_1 := hS.2.1.cell1; have g2_0 := hS.2.2.cell0; have g2_1 := hS.2.2.cell1; clear hS; go_simp; with_reducible rfl)); simp only [List.setIfInBounds_toArray, List.set_cons_zero, List.set_cons_succ]
    refine Lex.lex_take (v := ?_) rfl rfl (by rfl) (fun _ hS => ?_) ?_; rotate_left 1; (focus (have g0_0 := hS.1.cell0; have g0_1 := hS.1.cell1; have g1_0 := hS.2.1.cell0; have g1_1 := hS.2.1.cell1; have g2_0 := hS.2.2.cell0; have g2_1 := hS.2.2.cell1; clear hS; go_simp; with_reducible rfl)); simp only [List.setIfInBounds_toArray, List.set_cons_zero, List.set_cons_succ]
    refine Lex.lex_take (v := ?_) rfl rfl (by rfl) (fun _ hS => ?_) ?_; rotate_left 1; (focus (have g0_0 := hS.1.cell0; have g0_1 := hS.1.cell1; have g1_0 := hS.2.1.cell0; have g1_1 := hS.2.1.cell1; have g2_0 := hS.2.2.cell0; have g2_1 := hS.2.2.cell1; clear hS; go_simp; with_reducible rfl)); simp only [List.setIfInBounds_toArray, List.set_cons_zero, List.set_cons_succ]
    refine Lex.lex_take (v := ?_) rfl rfl (by rfl) (fun _ hS => ?_) ?_; rotate_left 1; (focus (have g0_0 := hS.1.cell0; have g0_1 := hS.1.cell1; have g1_0 := hS.2.1.cell0; have g1_1 := hS.2.1.cell1; have g2_0 := hS.2.2.cell0; have g2_1 := hS.2.2.cell1; clear hS; go_simp; with_reducible rfl)); simp only [List.setIfInBounds_toArray, List.set_cons_zero, List.set_cons_succ]
    refine Lex.lex_take (v := ?_) rfl rfl (by rfl) (fun _ hS => ?_) ?_; rotate_left 1; (focus (have g0_0 := hS.1.cell0; have g0_1 := hS.1.cell1; have g1_0 := hS.2.1.cell0; have g1_1 := hS.2.1.cell1; have g2_0 := hS.2.2.cell0; have g2_1 := hS.2.2.cell1; clear hS; go_simp; with_reducible rfl)); simp only [List.setIfInBounds_toArray, List.set_cons_zero, List.set_cons_succ]
    refine Lex.lex_take (v := ?_) rfl rfl (by rfl) (fun _ hS => ?_) ?_; rotate_left 1; (focus (have g0_0 := hS.1.cell0; have g0_1 := hS.1.cell1; have g1_0 := hS.2.1.cell0; have g1_1 := hS.2.1.cell1; have g2_0 := hS.2.2.cell0; have g2_1 := hS.2.2.cell1; clear hS; go_simp; with_reducible rfl)); simp only [List.setIfInBounds_toArray, List.set_cons_zero, List.set_cons_succ]
    refine Lex.lex_take (v := ?_) rfl rfl (by rfl) (fun _ hS => ?_) ?_; rotate_left 1; (focus (have g0_0 := hS.1.cell0; have g0_1 := hS.1.cell1; have g1_0 := hS.2.1.cell0; have g1_1 := hS.2.1.cell1; have g2_0 := hS.2.2.cell0; have g2_1 := hS.2.2.cell1; clear hS; go_simp; with_reducible rfl)); simp only [List.setIfInBounds_toArray, List.set_cons_zero, List.set_cons_succ]
    refine Lex.lex_take (v := ?_) rfl rfl (by rfl) (fun _ hS => ?_) ?_; rotate_left 1; (focus (have g0_0 := hS.1.cell0; have g0_1 := hS.1.cell1; have g1_0 := hS.2.1.cell0; have g1_1 := hS.2.1.cell1; have g2_0 := hS.2.2.cell0; have g2_1 := hS.2.2.cell1; clear hS; go_simp; with_reducible rfl)); simp only [List.setIfInBounds_toArray, List.set_cons_zero, List.set_cons_succ]
    refine Lex.lex_take (v := ?_) rfl rfl (by rfl) (fun _ hS => ?_) ?_; rotate_left 1; (focus (have g0_0 := hS.1.cell0; have g0_1 := hS.1.cell1; have g1_0 := hS.2.1.cell0; have g1_1 := hS.2.1.cell1; have g2_0 := hS.2.2.cell0; have g2_1 := hS.2.2.cell1; clear hS; go_simp; with_reducible rfl)); simp only [List.setIfInBounds_toArray, List.set_cons_zero, List.set_cons_succ]
    refine Lex.lex_do rfl ?_
    go_wp2_with fail
    refine Lex.lexQ_normal (fun _ => ⟨XF.out.below hb23 XF.out.lt, X1.out.below hb23 X1.out.lt, X2.out.below hb23 X2.out.lt⟩) ?_
    refine Lex.lex_nil ?_
    have HE := Lib.hid hw23
    clear hb23 hw23
    go_wp2
    go_ret
    exact ⟨rfl, HE.out⟩

theorem own_all (p q most more : Int) (w : World) : Calls Try.prog 9 #[.agg #[.int .i64 p, .int .i64 q], .int .i64 most, .int .i64 more] w (RetV (.bool true) w) := by
  by_cases h : FOk (p, q)
  · exact own_b p q most more w h
  · exact own_a p q most more w h

end Go.Proofs.Ytklngjjokbhfpaa
