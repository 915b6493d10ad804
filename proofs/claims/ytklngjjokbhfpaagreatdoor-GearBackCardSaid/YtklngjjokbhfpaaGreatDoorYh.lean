/- The walks of GearFloors, GearParses and GearBack (printed by genyh.py). -/
import Derived.Test.YtklngjjokbhfpaaGreatDoorYe
import Derived.Test.YtklngjjokbhfpaaGreatDoorYf
namespace Go.Proofs.YtklngjjokbhfpaaGreatDoor
open Go.RowKit Go.Lib

theorem smallV_floor {n d : Int} (h : FOk (n, d)) : smallV (n / d) = .tuple #[.int .i64 (n / d), .bool true] := by
  have h1 : 1 ≤ d := h.1
  have h3 : n.natAbs ≤ 4611686018427387904 := h.2.2.1
  have e1 : n / d ≤ 4611686018427387904 := by
    rcases Int.lt_or_le n 0 with g | g
    · have := Int.ediv_neg_of_neg_of_pos g (show 0 < d by omega); omega
    · have := Int.ediv_le_self d g; omega
  have e2 : -4611686018427387904 ≤ n / d := by
    rcases Int.lt_or_le n 0 with g | g
    · have := Int.le_ediv_of_mul_le (show 0 < d by omega) (show -4611686018427387904 * d ≤ n by
        have := Int.mul_le_mul_of_nonneg_left h1 (show (0 : Int) ≤ 4611686018427387904 by omega)
        omega)
      exact this
    · have := Int.ediv_nonneg g (show 0 ≤ d by omega); omega
  unfold smallV
  rw [if_pos ⟨e2, e1⟩]
set_option maxRecDepth 100000 in
set_option maxHeartbeats 1600000 in
theorem is_same (a b z : Int) (w : World) : Calls Tryz.prog 14 #[.agg #[.int .i64 a, .int .i64 b], .int .i64 z, .agg #[.int .i64 a, .int .i64 b], .int .i64 z] w (RetV (.bool true) w) := by
  have hb : Below w.heap.size w ((w.alloc (.cells #[.int .i64 a, .int .i64 b] 23)).alloc (.cells #[.int .i64 a, .int .i64 b] 23)) := ((Below.refl _ _).alloc (Nat.le_refl _) _).alloc (by simp) _
  have HB := Lib.hid hb
  clear hb
  go_enter Tryz.func14, Tryz.ntmps14
  go_wp2
  go_ret
  exact ⟨rfl, HB.out⟩
/-- What Parse gives, as a value. -/
theorem parse_val (l : List UInt8) (o : Option (Int × Int)) : ∃ a b z, ∀ (W : World) e w', RetP o W e w' → RetW (.tuple #[.agg #[.int .i64 a, .int .i64 b], .int .i64 z]) W e w' := by
  cases o with
  | none => exact ⟨0, 0, 2, fun W e w' h => ⟨_, h.2, rfl, h.1⟩⟩
  | some x => exact ⟨x.1, x.2, 0, fun W e w' h => ⟨_, h.2, rfl, h.1⟩⟩
set_option maxRecDepth 100000 in
set_option maxHeartbeats 1600000 in
theorem floors_bad (n d : Int) (w : World) (hn : I64 n) (hd : I64 d) (h : ¬ FOk (n, d)) : Calls Tryz.prog 3 #[.agg #[.int .i64 n, .int .i64 d]] w (RetV (.bool true) w) := by
  have cf : ∀ W (_ : Below w.heap.size w W), Calls Tryz.prog 6 #[.agg #[.int .i64 n, .int .i64 d]] W (RetW (.tuple #[.int .i64 0, .int .i64 2]) W) := fun W _ => (gfloor_bad n d W hn hd h).mono fun e w' h => RetW.of h
  have ct : ∀ W (_ : Below w.heap.size w W), Calls Tryz.prog 7 #[.agg #[.int .i64 n, .int .i64 d]] W (RetW (.tuple #[.string ⟨([] : List UInt8).toArray⟩, .int .i64 2]) W) := fun W _ => (gtext_bad n d W hn hd h).mono fun e w' h => RetW.of h
  have cv := valid_y n d false (decide_eq_false h) (w := w)
  have cl := lives_y (w := w)
  clear hn hd h
  obtain ⟨W3, hW3⟩ : ∃ W3, W3 = w.alloc (.cells #[.int .i64 n, .int .i64 d] 23) := ⟨_, rfl⟩
  have hB : Below w.heap.size w W3 := by rw [hW3]; exact (Below.refl _ _).alloc (Nat.le_refl _) _
  have HBW := Lib.hid hB
  have HF := Lib.hid (show Two W3 w.heap.size (.int .i64 n) (.int .i64 d) 23 by rw [hW3]; exact Two.newAt _ _ _ _ _ rfl)
  clear hB
  go_enter Tryz.func3, Tryz.ntmps3
  go_upto_region 1 with fail
  rw [← hW3]
  clear hW3
  have k0_0 := HF.out.cell0
  have k0_1 := HF.out.cell1
  have hb10 := Below.refl W3.heap.size W3
  have hw10 := HBW.out
  have cc := cf W3 hw10
  go_wp2_with fail
  refine cc.mono ?_
  rintro e V11 ⟨v11, rfl, hm11, hn11⟩
  have hb11 := hb10.trans (hn11.mono hb10.size)
  have hw11 := hw10.trans (hn11.mono hw10.size)
  subst hm11
  clear cc hb10 hw10 hn11
  clear k0_0 k0_1
  have k0_0 := (HF.out.below hb11 HF.out.lt).cell0
  have k0_1 := (HF.out.below hb11 HF.out.lt).cell1
  have cc := ct V11 hw11
  go_wp2_with fail
  refine cc.mono ?_
  rintro e V12 ⟨v12, rfl, hm12, hn12⟩
  have hb12 := hb11.trans (hn12.mono hb11.size)
  have hw12 := hw11.trans (hn12.mono hw11.size)
  subst hm12
  clear cc hb11 hw11 hn12
  clear k0_0 k0_1
  have k0_0 := (HF.out.below hb12 HF.out.lt).cell0
  have k0_1 := (HF.out.below hb12 HF.out.lt).cell1
  have cc := cv V12 hw12
  go_wp2_with fail
  refine cc.mono ?_
  rintro e V13 ⟨v13, rfl, hm13, hn13⟩
  have hb13 := hb12.trans (hn13.mono hb12.size)
  have hw13 := hw12.trans (hn13.mono hw12.size)
  subst hm13
  clear cc hb12 hw12 hn13
  clear k0_0 k0_1
  have k0_0 := (HF.out.below hb13 HF.out.lt).cell0
  have k0_1 := (HF.out.below hb13 HF.out.lt).cell1
  have cc := cl V13 hw13
  go_wp2_with fail
  refine cc.mono ?_
  rintro e V14 ⟨v14, rfl, hm14, hn14⟩
  have hb14 := hb13.trans (hn14.mono hb13.size)
  have hw14 := hw13.trans (hn14.mono hw13.size)
  subst hm14
  clear cc hb13 hw13 hn14
  clear k0_0 k0_1
  have k0_0 := (HF.out.below hb14 HF.out.lt).cell0
  have k0_1 := (HF.out.below hb14 HF.out.lt).cell1
  have HE := Lib.hid hw14
  clear hb14 hw14
  go_wp2
  go_ret
  exact ⟨rfl, HE.out⟩
set_option maxRecDepth 100000 in
set_option maxHeartbeats 1600000 in
theorem floors_ok (n d : Int) (w : World) (h : FOk (n, d)) (hI : ItoaOk w) : Calls Tryz.prog 3 #[.agg #[.int .i64 n, .int .i64 d]] w (RetV (.bool true) w) := by
  obtain ⟨hn, hd⟩ := i64_lowf h
  obtain ⟨z, hz⟩ : ∃ z, n / d = z := ⟨_, rfl⟩
  obtain ⟨t, ht⟩ : ∃ t, textM n d = t := ⟨_, rfl⟩
  have cf : ∀ W (_ : Below w.heap.size w W), Calls Tryz.prog 6 #[.agg #[.int .i64 n, .int .i64 d]] W (RetW (.tuple #[.int .i64 z, .int .i64 0]) W) := fun W _ => (gfloor_ok n d z W h hz).mono fun e w' h => RetW.of h
  have ct : ∀ W (_ : Below w.heap.size w W), Calls Tryz.prog 7 #[.agg #[.int .i64 n, .int .i64 d]] W (RetW (.tuple #[.string ⟨(t).toArray⟩, .int .i64 0]) W) := fun W hb => by
    rw [← ht]
    exact (gtext_ok n d W h (hI.below hb)).mono fun e w' h => RetW.of h
  have cv := valid_y n d true (decide_eq_true h) (w := w)
  have cl := lives_y (w := w)
  have crf : ∀ W (_ : Below w.heap.size w W), Calls Tryz.prog 10 #[.agg #[.int .i64 n, .int .i64 d]] W (RetW (.int .i64 z) W) := fun W _ => (rfloor_any (bb := (true, ())) W hn hd (show 0 < d by have := h.1; simp only at this; omega) (by rw [smallV_floor h, hz])).mono fun e w' h => RetW.of h
  have crt : ∀ W (_ : Below w.heap.size w W), Calls Tryz.prog 11 #[.agg #[.int .i64 n, .int .i64 d]] W (RetW (.string ⟨(t).toArray⟩) W) := fun W _ => by
    rw [← ht]
    exact (rtext_any n d W h).mono fun e w' h => RetW.of h
  clear hn hd h hz ht hI
  obtain ⟨W3, hW3⟩ : ∃ W3, W3 = w.alloc (.cells #[.int .i64 n, .int .i64 d] 23) := ⟨_, rfl⟩
  have hB : Below w.heap.size w W3 := by rw [hW3]; exact (Below.refl _ _).alloc (Nat.le_refl _) _
  have HBW := Lib.hid hB
  have HF := Lib.hid (show Two W3 w.heap.size (.int .i64 n) (.int .i64 d) 23 by rw [hW3]; exact Two.newAt _ _ _ _ _ rfl)
  clear hB
  go_enter Tryz.func3, Tryz.ntmps3
  go_upto_region 1 with fail
  rw [← hW3]
  clear hW3
  have k0_0 := HF.out.cell0
  have k0_1 := HF.out.cell1
  have hb10 := Below.refl W3.heap.size W3
  have hw10 := HBW.out
  have cc := cf W3 hw10
  go_wp2_with fail
  refine cc.mono ?_
  rintro e V11 ⟨v11, rfl, hm11, hn11⟩
  have hb11 := hb10.trans (hn11.mono hb10.size)
  have hw11 := hw10.trans (hn11.mono hw10.size)
  subst hm11
  clear cc hb10 hw10 hn11
  clear k0_0 k0_1
  have k0_0 := (HF.out.below hb11 HF.out.lt).cell0
  have k0_1 := (HF.out.below hb11 HF.out.lt).cell1
  have cc := ct V11 hw11
  go_wp2_with fail
  refine cc.mono ?_
  rintro e V12 ⟨v12, rfl, hm12, hn12⟩
  have hb12 := hb11.trans (hn12.mono hb11.size)
  have hw12 := hw11.trans (hn12.mono hw11.size)
  subst hm12
  clear cc hb11 hw11 hn12
  clear k0_0 k0_1
  have k0_0 := (HF.out.below hb12 HF.out.lt).cell0
  have k0_1 := (HF.out.below hb12 HF.out.lt).cell1
  have cc := cv V12 hw12
  go_wp2_with fail
  refine cc.mono ?_
  rintro e V13 ⟨v13, rfl, hm13, hn13⟩
  have hb13 := hb12.trans (hn13.mono hb12.size)
  have hw13 := hw12.trans (hn13.mono hw12.size)
  subst hm13
  clear cc hb12 hw12 hn13
  clear k0_0 k0_1
  have k0_0 := (HF.out.below hb13 HF.out.lt).cell0
  have k0_1 := (HF.out.below hb13 HF.out.lt).cell1
  have cc := crf V13 hw13
  go_wp2_with fail
  refine cc.mono ?_
  rintro e V14 ⟨v14, rfl, hm14, hn14⟩
  have hb14 := hb13.trans (hn14.mono hb13.size)
  have hw14 := hw13.trans (hn14.mono hw13.size)
  subst hm14
  clear cc hb13 hw13 hn14
  clear k0_0 k0_1
  have k0_0 := (HF.out.below hb14 HF.out.lt).cell0
  have k0_1 := (HF.out.below hb14 HF.out.lt).cell1
  have cc := crt V14 hw14
  go_wp2_with fail
  refine cc.mono ?_
  rintro e V15 ⟨v15, rfl, hm15, hn15⟩
  have hb15 := hb14.trans (hn15.mono hb14.size)
  have hw15 := hw14.trans (hn15.mono hw14.size)
  subst hm15
  clear cc hb14 hw14 hn15
  clear k0_0 k0_1
  have k0_0 := (HF.out.below hb15 HF.out.lt).cell0
  have k0_1 := (HF.out.below hb15 HF.out.lt).cell1
  have cc := cl V15 hw15
  go_wp2_with fail
  refine cc.mono ?_
  rintro e V16 ⟨v16, rfl, hm16, hn16⟩
  have hb16 := hb15.trans (hn16.mono hb15.size)
  have hw16 := hw15.trans (hn16.mono hw15.size)
  subst hm16
  clear cc hb15 hw15 hn16
  clear k0_0 k0_1
  have k0_0 := (HF.out.below hb16 HF.out.lt).cell0
  have k0_1 := (HF.out.below hb16 HF.out.lt).cell1
  have HE := Lib.hid hw16
  clear hb16 hw16
  go_wp2
  go_ret
  exact ⟨rfl, HE.out⟩
set_option maxRecDepth 100000 in
set_option maxHeartbeats 1600000 in
theorem parses_any (L : List UInt8) (w : World) (hL : L.length ≤ 9223372036854775807) (hI : ItoaOk w) (hA : AtoiOk w) (hC : CutOk w) : Calls Tryz.prog 4 #[.string ⟨(L).toArray⟩] w (RetV (.bool true) w) := by
  obtain ⟨l, hl⟩ : ∃ l, L.take 100 = l := ⟨_, rfl⟩
  have hll : l.length ≤ 100 := by rw [← hl, List.length_take]; omega
  obtain ⟨a, b, z, hv⟩ := parse_val l (parseM l)
  have cg : ∀ W (_ : Below w.heap.size w W), Calls Tryz.prog 12 #[.string ⟨(l).toArray⟩] W (RetW (.tuple #[.agg #[.int .i64 a, .int .i64 b], .int .i64 z]) W) := fun W hb => (gparse_any l W (by omega) (hI.below hb) (hA.below hb) (hC.below hb)).mono fun e w' h => hv W e w' h
  have cr : ∀ W (_ : Below w.heap.size w W), Calls Tryz.prog 13 #[.string ⟨(l).toArray⟩] W (RetW (.tuple #[.agg #[.int .i64 a, .int .i64 b], .int .i64 z]) W) := fun W hb => by
    have := rparse_any l W hll
    rw [← parse_eq] at this
    exact this.mono fun e w' h => hv W e w' h
  have cis : ∀ W (_ : Below w.heap.size w W), Calls Tryz.prog 14 #[.agg #[.int .i64 a, .int .i64 b], .int .i64 z, .agg #[.int .i64 a, .int .i64 b], .int .i64 z] W (RetW (.bool true) W) := fun W _ => (is_same a b z W).mono fun e w' h => RetW.of h
  have cl := lives_y (w := w)
  have HBW := Lib.hid (Below.refl w.heap.size w)
  clear hI hA hC hv hll
  rcases Nat.lt_or_ge 100 L.length with h100 | h100
  · have e1 : (⟨L.toArray⟩ : ByteArray).extract 0 100 = ⟨l.toArray⟩ := by rw [← hl]; exact ext_take L 100
    have d1 : (100 : Int) < (L.length : Int) := by omega
    have d2 : (100 : Int) ≤ (L.length : Int) := by omega
    have d3 : 100 ≤ L.length := by omega
    clear hl
    go_enter Tryz.func4, Tryz.ntmps4
    go_upto_region 3 with fail
    clear e1 d1 d2 d3 h100
    have hb10 := Below.refl w.heap.size w
    have hw10 := HBW.out
    have cc := cg w hw10
    go_wp2_with fail
    refine cc.mono ?_
    rintro e V11 ⟨v11, rfl, hm11, hn11⟩
    have hb11 := hb10.trans (hn11.mono hb10.size)
    have hw11 := hw10.trans (hn11.mono hw10.size)
    subst hm11
    clear cc hb10 hw10 hn11
    obtain ⟨N2, hNB⟩ : ∃ N2, N2 = V11.heap.size := ⟨_, rfl⟩
    obtain ⟨U2, hU⟩ : ∃ U2, U2 = V11.alloc (.cells #[.int .i64 a, .int .i64 b] 23) := ⟨_, rfl⟩
    have HU := Lib.hid (show U2 = _ ∧ N2 = _ from ⟨hU, hNB⟩)
    clear hU hNB
    go_upto_region 4 with fail
    rw [← HU.out.2, ← HU.out.1]
    have hbU := hb11.alloc hb11.size (.cells #[.int .i64 a, .int .i64 b] 23)
    have hwU := hw11.alloc hw11.size (.cells #[.int .i64 a, .int .i64 b] 23)
    rw [← HU.out.1] at hbU hwU
    have F2_a := Lib.hid (show Two U2 N2 (.int .i64 a) (.int .i64 b) 23 by rw [HU.out.1, HU.out.2]; exact Two.newAt _ _ _ _ _ rfl)
    have B2_ := Lib.hid hwU
    clear HU hbU hwU hb11 hw11 HBW
    clear cg
    have hb30 := Below.refl U2.heap.size U2
    have hw30 := B2_.out
    have cc := cr U2 hw30
    go_wp2_with fail
    refine cc.mono ?_
    rintro e V31 ⟨v31, rfl, hm31, hn31⟩
    have hb31 := hb30.trans (hn31.mono hb30.size)
    have hw31 := hw30.trans (hn31.mono hw30.size)
    subst hm31
    clear cc hb30 hw30 hn31
    obtain ⟨N4, hNB⟩ : ∃ N4, N4 = V31.heap.size := ⟨_, rfl⟩
    obtain ⟨U4, hU⟩ : ∃ U4, U4 = V31.alloc (.cells #[.int .i64 a, .int .i64 b] 23) := ⟨_, rfl⟩
    have HU := Lib.hid (show U4 = _ ∧ N4 = _ from ⟨hU, hNB⟩)
    clear hU hNB
    go_upto_region 5 with fail
    rw [← HU.out.2, ← HU.out.1]
    have hbU := hb31.alloc hb31.size (.cells #[.int .i64 a, .int .i64 b] 23)
    have hwU := hw31.alloc hw31.size (.cells #[.int .i64 a, .int .i64 b] 23)
    rw [← HU.out.1] at hbU hwU
    have F4_a := Lib.hid (F2_a.out.below hbU F2_a.out.lt)
    have F4_b := Lib.hid (show Two U4 N4 (.int .i64 a) (.int .i64 b) 23 by rw [HU.out.1, HU.out.2]; exact Two.newAt _ _ _ _ _ rfl)
    have B4_ := Lib.hid hwU
    clear HU hbU hwU hb31 hw31 F2_a B2_
    clear cr
    have k0_0 := F4_a.out.cell0
    have k0_1 := F4_a.out.cell1
    have k1_0 := F4_b.out.cell0
    have k1_1 := F4_b.out.cell1
    have hb50 := Below.refl U4.heap.size U4
    have hw50 := B4_.out
    have cc := cis U4 hw50
    go_wp2_with fail
    refine cc.mono ?_
    rintro e V51 ⟨v51, rfl, hm51, hn51⟩
    have hb51 := hb50.trans (hn51.mono hb50.size)
    have hw51 := hw50.trans (hn51.mono hw50.size)
    subst hm51
    clear cc hb50 hw50 hn51
    clear k0_0 k0_1 k1_0 k1_1
    have k0_0 := (F4_a.out.below hb51 F4_a.out.lt).cell0
    have k0_1 := (F4_a.out.below hb51 F4_a.out.lt).cell1
    have k1_0 := (F4_b.out.below hb51 F4_b.out.lt).cell0
    have k1_1 := (F4_b.out.below hb51 F4_b.out.lt).cell1
    have cc := cl V51 hw51
    go_wp2_with fail
    refine cc.mono ?_
    rintro e V52 ⟨v52, rfl, hm52, hn52⟩
    have hb52 := hb51.trans (hn52.mono hb51.size)
    have hw52 := hw51.trans (hn52.mono hw51.size)
    subst hm52
    clear cc hb51 hw51 hn52
    clear k0_0 k0_1 k1_0 k1_1
    have k0_0 := (F4_a.out.below hb52 F4_a.out.lt).cell0
    have k0_1 := (F4_a.out.below hb52 F4_a.out.lt).cell1
    have k1_0 := (F4_b.out.below hb52 F4_b.out.lt).cell0
    have k1_1 := (F4_b.out.below hb52 F4_b.out.lt).cell1
    have HE := Lib.hid hw52
    clear hb52 hw52
    go_wp2
    go_ret
    exact ⟨rfl, HE.out⟩
  · obtain rfl : L = l := by rw [← hl]; exact (List.take_of_length_le h100).symm
    have d1 : ¬ (100 : Int) < (L.length : Int) := by omega
    clear hl
    go_enter Tryz.func4, Tryz.ntmps4
    go_upto_region 3 with fail
    clear d1 h100
    have hb10 := Below.refl w.heap.size w
    have hw10 := HBW.out
    have cc := cg w hw10
    go_wp2_with fail
    refine cc.mono ?_
    rintro e V11 ⟨v11, rfl, hm11, hn11⟩
    have hb11 := hb10.trans (hn11.mono hb10.size)
    have hw11 := hw10.trans (hn11.mono hw10.size)
    subst hm11
    clear cc hb10 hw10 hn11
    obtain ⟨N2, hNB⟩ : ∃ N2, N2 = V11.heap.size := ⟨_, rfl⟩
    obtain ⟨U2, hU⟩ : ∃ U2, U2 = V11.alloc (.cells #[.int .i64 a, .int .i64 b] 23) := ⟨_, rfl⟩
    have HU := Lib.hid (show U2 = _ ∧ N2 = _ from ⟨hU, hNB⟩)
    clear hU hNB
    go_upto_region 4 with fail
    rw [← HU.out.2, ← HU.out.1]
    have hbU := hb11.alloc hb11.size (.cells #[.int .i64 a, .int .i64 b] 23)
    have hwU := hw11.alloc hw11.size (.cells #[.int .i64 a, .int .i64 b] 23)
    rw [← HU.out.1] at hbU hwU
    have F2_a := Lib.hid (show Two U2 N2 (.int .i64 a) (.int .i64 b) 23 by rw [HU.out.1, HU.out.2]; exact Two.newAt _ _ _ _ _ rfl)
    have B2_ := Lib.hid hwU
    clear HU hbU hwU hb11 hw11 HBW
    clear cg
    have hb30 := Below.refl U2.heap.size U2
    have hw30 := B2_.out
    have cc := cr U2 hw30
    go_wp2_with fail
    refine cc.mono ?_
    rintro e V31 ⟨v31, rfl, hm31, hn31⟩
    have hb31 := hb30.trans (hn31.mono hb30.size)
    have hw31 := hw30.trans (hn31.mono hw30.size)
    subst hm31
    clear cc hb30 hw30 hn31
    obtain ⟨N4, hNB⟩ : ∃ N4, N4 = V31.heap.size := ⟨_, rfl⟩
    obtain ⟨U4, hU⟩ : ∃ U4, U4 = V31.alloc (.cells #[.int .i64 a, .int .i64 b] 23) := ⟨_, rfl⟩
    have HU := Lib.hid (show U4 = _ ∧ N4 = _ from ⟨hU, hNB⟩)
    clear hU hNB
    go_upto_region 5 with fail
    rw [← HU.out.2, ← HU.out.1]
    have hbU := hb31.alloc hb31.size (.cells #[.int .i64 a, .int .i64 b] 23)
    have hwU := hw31.alloc hw31.size (.cells #[.int .i64 a, .int .i64 b] 23)
    rw [← HU.out.1] at hbU hwU
    have F4_a := Lib.hid (F2_a.out.below hbU F2_a.out.lt)
    have F4_b := Lib.hid (show Two U4 N4 (.int .i64 a) (.int .i64 b) 23 by rw [HU.out.1, HU.out.2]; exact Two.newAt _ _ _ _ _ rfl)
    have B4_ := Lib.hid hwU
    clear HU hbU hwU hb31 hw31 F2_a B2_
    clear cr
    have k0_0 := F4_a.out.cell0
    have k0_1 := F4_a.out.cell1
    have k1_0 := F4_b.out.cell0
    have k1_1 := F4_b.out.cell1
    have hb50 := Below.refl U4.heap.size U4
    have hw50 := B4_.out
    have cc := cis U4 hw50
    go_wp2_with fail
    refine cc.mono ?_
    rintro e V51 ⟨v51, rfl, hm51, hn51⟩
    have hb51 := hb50.trans (hn51.mono hb50.size)
    have hw51 := hw50.trans (hn51.mono hw50.size)
    subst hm51
    clear cc hb50 hw50 hn51
    clear k0_0 k0_1 k1_0 k1_1
    have k0_0 := (F4_a.out.below hb51 F4_a.out.lt).cell0
    have k0_1 := (F4_a.out.below hb51 F4_a.out.lt).cell1
    have k1_0 := (F4_b.out.below hb51 F4_b.out.lt).cell0
    have k1_1 := (F4_b.out.below hb51 F4_b.out.lt).cell1
    have cc := cl V51 hw51
    go_wp2_with fail
    refine cc.mono ?_
    rintro e V52 ⟨v52, rfl, hm52, hn52⟩
    have hb52 := hb51.trans (hn52.mono hb51.size)
    have hw52 := hw51.trans (hn52.mono hw51.size)
    subst hm52
    clear cc hb51 hw51 hn52
    clear k0_0 k0_1 k1_0 k1_1
    have k0_0 := (F4_a.out.below hb52 F4_a.out.lt).cell0
    have k0_1 := (F4_a.out.below hb52 F4_a.out.lt).cell1
    have k1_0 := (F4_b.out.below hb52 F4_b.out.lt).cell0
    have k1_1 := (F4_b.out.below hb52 F4_b.out.lt).cell1
    have HE := Lib.hid hw52
    clear hb52 hw52
    go_wp2
    go_ret
    exact ⟨rfl, HE.out⟩
set_option maxRecDepth 100000 in
set_option maxHeartbeats 3200000 in
theorem back_any (n d : Int) (L : List UInt8) (w : World) (hn : I64 n) (hd : I64 d) (hL : L.length ≤ 9223372036854775807) (hI : ItoaOk w) (hA : AtoiOk w) (hC : CutOk w) : Calls Tryz.prog 5 #[.agg #[.int .i64 n, .int .i64 d], .string ⟨(L).toArray⟩] w (RetV (.bool true) w) := by
  obtain ⟨l, hl⟩ : ∃ l, L.take 100 = l := ⟨_, rfl⟩
  have hll : l.length ≤ 100 := by rw [← hl, List.length_take]; omega
  have cl := lives_y (w := w)
  have HP := Lib.hid (show (parseM l = none → ∀ W (_ : Below w.heap.size w W), Calls Tryz.prog 12 #[.string ⟨(l).toArray⟩] W (RetW (.tuple #[.agg #[.int .i64 0, .int .i64 0], .int .i64 2]) W)) ∧ (∀ p q, parseM l = some (p, q) → (∀ W (_ : Below w.heap.size w W), Calls Tryz.prog 12 #[.string ⟨(l).toArray⟩] W (RetW (.tuple #[.agg #[.int .i64 p, .int .i64 q], .int .i64 0]) W)) ∧ (∀ W (_ : Below w.heap.size w W), Calls Tryz.prog 7 #[.agg #[.int .i64 p, .int .i64 q]] W (RetW (.tuple #[.string ⟨(l).toArray⟩, .int .i64 0]) W))) from
    ⟨fun ho W hb => (gparse_any l W (by omega) (hI.below hb) (hA.below hb) (hC.below hb)).mono fun e w' h => by rw [ho] at h; exact ⟨_, h.2, rfl, h.1⟩,
     fun p q ho => ⟨fun W hb => (gparse_any l W (by omega) (hI.below hb) (hA.below hb) (hC.below hb)).mono fun e w' h => by rw [ho] at h; exact ⟨_, h.2, rfl, h.1⟩,
       fun W hb => by
        obtain ⟨h1, h2⟩ := parse_some ho
        have := gtext_ok p q W h1 (hI.below hb)
        rw [h2] at this
        exact this.mono fun e w' h => RetW.of h⟩⟩)
  obtain ⟨t, te, a, b, z, vb, ct, cg, cv, hgood⟩ : ∃ (t : List UInt8) (te a b z : Int) (vb : Bool × Unit), (∀ W (_ : Below w.heap.size w W), Calls Tryz.prog 7 #[.agg #[.int .i64 n, .int .i64 d]] W (RetW (.tuple #[.string ⟨(t).toArray⟩, .int .i64 te]) W)) ∧ (∀ W (_ : Below w.heap.size w W), Calls Tryz.prog 12 #[.string ⟨(t).toArray⟩] W (RetW (.tuple #[.agg #[.int .i64 a, .int .i64 b], .int .i64 z]) W)) ∧ (∀ W (_ : Below w.heap.size w W), Calls Tryz.prog 8 #[.agg #[.int .i64 n, .int .i64 d]] W (RetW (.bool vb.1) W)) ∧ (vb.1 = true → te = 0 ∧ z = 0 ∧ a = n ∧ b = d) := by
    by_cases h : FOk (n, d)
    · have hlen := textM_len hn hd
      refine ⟨textM n d, 0, n, d, 0, (true, ()), fun W hb => (gtext_ok n d W h (hI.below hb)).mono fun e w' h => RetW.of h, fun W hb => (gparse_any _ W (by omega) (hI.below hb) (hA.below hb) (hC.below hb)).mono fun e w' h' => ?_, valid_y n d true (decide_eq_true h), fun _ => ⟨rfl, rfl, rfl, rfl⟩⟩
      rw [parse_text h] at h'
      exact ⟨_, h'.2, rfl, h'.1⟩
    · obtain ⟨a, b, z, hv⟩ := parse_val [] (parseM [])
      exact ⟨[], 2, a, b, z, (false, ()), fun W _ => (gtext_bad n d W hn hd h).mono fun e w' h => RetW.of h, fun W hb => (gparse_any [] W (by simp) (hI.below hb) (hA.below hb) (hC.below hb)).mono fun e w' h => hv W e w' h, valid_y n d false (decide_eq_false h), fun h => nomatch h⟩
  clear hI hA hC hll hn hd
  obtain ⟨W3, hW3⟩ : ∃ W3, W3 = w.alloc (.cells #[.int .i64 n, .int .i64 d] 23) := ⟨_, rfl⟩
  have hB : Below w.heap.size w W3 := by rw [hW3]; exact (Below.refl _ _).alloc (Nat.le_refl _) _
  have HBW := Lib.hid hB
  have HF := Lib.hid (show Two W3 w.heap.size (.int .i64 n) (.int .i64 d) 23 by rw [hW3]; exact Two.newAt _ _ _ _ _ rfl)
  clear hB
  rcases Nat.lt_or_ge 100 L.length with h100 | h100
  · have e1 : (⟨L.toArray⟩ : ByteArray).extract 0 100 = ⟨l.toArray⟩ := by rw [← hl]; exact ext_take L 100
    have d1 : (100 : Int) < (L.length : Int) := by omega
    have d2 : (100 : Int) ≤ (L.length : Int) := by omega
    have d3 : 100 ≤ L.length := by omega
    clear hl
    go_enter Tryz.func5, Tryz.ntmps5
    go_upto_region 3 with fail
    rw [← hW3]
    clear hW3
    clear e1 d1 d2 d3 h100
    cases hvb : vb.1
    · rw [hvb] at cv
      clear hgood hvb
      have k0_0 := HF.out.cell0
      have k0_1 := HF.out.cell1
      have hb10 := Below.refl W3.heap.size W3
      have hw10 := HBW.out
      have cc := ct W3 hw10
      go_wp2_with fail
      refine cc.mono ?_
      rintro e V11 ⟨v11, rfl, hm11, hn11⟩
      have hb11 := hb10.trans (hn11.mono hb10.size)
      have hw11 := hw10.trans (hn11.mono hw10.size)
      subst hm11
      clear cc hb10 hw10 hn11
      clear k0_0 k0_1
      have k0_0 := (HF.out.below hb11 HF.out.lt).cell0
      have k0_1 := (HF.out.below hb11 HF.out.lt).cell1
      clear ct
      clear k0_0 k0_1
      have F2_x := Lib.hid (HF.out.below hb11 HF.out.lt)
      have B2_ := Lib.hid hw11
      clear hb11 hw11 HF HBW
      have k0_0 := F2_x.out.cell0
      have k0_1 := F2_x.out.cell1
      have hb30 := Below.refl V11.heap.size V11
      have hw30 := B2_.out
      have cc := cg V11 hw30
      go_wp2_with fail
      refine cc.mono ?_
      rintro e V31 ⟨v31, rfl, hm31, hn31⟩
      have hb31 := hb30.trans (hn31.mono hb30.size)
      have hw31 := hw30.trans (hn31.mono hw30.size)
      subst hm31
      clear cc hb30 hw30 hn31
      clear k0_0 k0_1
      have k0_0 := (F2_x.out.below hb31 F2_x.out.lt).cell0
      have k0_1 := (F2_x.out.below hb31 F2_x.out.lt).cell1
      obtain ⟨N4, hNB⟩ : ∃ N4, N4 = V31.heap.size := ⟨_, rfl⟩
      obtain ⟨U4, hU⟩ : ∃ U4, U4 = V31.alloc (.cells #[.int .i64 a, .int .i64 b] 23) := ⟨_, rfl⟩
      have HU := Lib.hid (show U4 = _ ∧ N4 = _ from ⟨hU, hNB⟩)
      clear hU hNB
      go_upto_region 5 with fail
      clear k0_0 k0_1
      rw [← HU.out.2, ← HU.out.1]
      have hbU := hb31.alloc hb31.size (.cells #[.int .i64 a, .int .i64 b] 23)
      have hwU := hw31.alloc hw31.size (.cells #[.int .i64 a, .int .i64 b] 23)
      rw [← HU.out.1] at hbU hwU
      have F4_x := Lib.hid (F2_x.out.below hbU F2_x.out.lt)
      have F4_y := Lib.hid (show Two U4 N4 (.int .i64 a) (.int .i64 b) 23 by rw [HU.out.1, HU.out.2]; exact Two.newAt _ _ _ _ _ rfl)
      have B4_ := Lib.hid hwU
      clear HU hbU hwU hb31 hw31 F2_x B2_
      clear cg
      have k0_0 := F4_x.out.cell0
      have k0_1 := F4_x.out.cell1
      have k1_0 := F4_y.out.cell0
      have k1_1 := F4_y.out.cell1
      have hb50 := Below.refl U4.heap.size U4
      have hw50 := B4_.out
      have cc := cv U4 hw50
      go_wp2_with fail
      refine cc.mono ?_
      rintro e V51 ⟨v51, rfl, hm51, hn51⟩
      have hb51 := hb50.trans (hn51.mono hb50.size)
      have hw51 := hw50.trans (hn51.mono hw50.size)
      subst hm51
      clear cc hb50 hw50 hn51
      clear k0_0 k0_1 k1_0 k1_1
      have k0_0 := (F4_x.out.below hb51 F4_x.out.lt).cell0
      have k0_1 := (F4_x.out.below hb51 F4_x.out.lt).cell1
      have k1_0 := (F4_y.out.below hb51 F4_y.out.lt).cell0
      have k1_1 := (F4_y.out.below hb51 F4_y.out.lt).cell1
      go_upto_region 7 with fail
      clear k0_0 k0_1 k1_0 k1_1
      have F6_x := Lib.hid (F4_x.out.below hb51 F4_x.out.lt)
      have F6_y := Lib.hid (F4_y.out.below hb51 F4_y.out.lt)
      have B6_ := Lib.hid hw51
      clear hb51 hw51 F4_x F4_y B4_
      clear cv
      cases ho : parseM l with
      | none =>
        have cp := HP.out.1 ho
        clear ho
        have hb70 := Below.refl V51.heap.size V51
        have hw70 := B6_.out
        have cc := cp V51 hw70
        go_wp2_with fail
        refine cc.mono ?_
        rintro e V71 ⟨v71, rfl, hm71, hn71⟩
        have hb71 := hb70.trans (hn71.mono hb70.size)
        have hw71 := hw70.trans (hn71.mono hw70.size)
        subst hm71
        clear cc hb70 hw70 hn71
        obtain ⟨N8, hNB⟩ : ∃ N8, N8 = V71.heap.size := ⟨_, rfl⟩
        obtain ⟨U8, hU⟩ : ∃ U8, U8 = V71.alloc (.cells #[.int .i64 0, .int .i64 0] 23) := ⟨_, rfl⟩
        have HU := Lib.hid (show U8 = _ ∧ N8 = _ from ⟨hU, hNB⟩)
        clear hU hNB
        go_upto_region 8 with fail
        rw [← HU.out.2, ← HU.out.1]
        have hbU := hb71.alloc hb71.size (.cells #[.int .i64 0, .int .i64 0] 23)
        have hwU := hw71.alloc hw71.size (.cells #[.int .i64 0, .int .i64 0] 23)
        rw [← HU.out.1] at hbU hwU
        have F8_x := Lib.hid (F6_x.out.below hbU F6_x.out.lt)
        have F8_y := Lib.hid (F6_y.out.below hbU F6_y.out.lt)
        have F8_z := Lib.hid (show Two U8 N8 (.int .i64 0) (.int .i64 0) 23 by rw [HU.out.1, HU.out.2]; exact Two.newAt _ _ _ _ _ rfl)
        have B8_ := Lib.hid hwU
        clear HU hbU hwU hb71 hw71 F6_x F6_y B6_
        clear cp
        have k0_0 := F8_z.out.cell0
        have k0_1 := F8_z.out.cell1
        have hb90 := Below.refl U8.heap.size U8
        have hw90 := B8_.out
        have cc := cl U8 hw90
        go_wp2_with fail
        refine cc.mono ?_
        rintro e V91 ⟨v91, rfl, hm91, hn91⟩
        have hb91 := hb90.trans (hn91.mono hb90.size)
        have hw91 := hw90.trans (hn91.mono hw90.size)
        subst hm91
        clear cc hb90 hw90 hn91
        clear k0_0 k0_1
        have k0_0 := (F8_z.out.below hb91 F8_z.out.lt).cell0
        have k0_1 := (F8_z.out.below hb91 F8_z.out.lt).cell1
        have HE := Lib.hid hw91
        clear hb91 hw91
        go_wp2
        go_ret
        exact ⟨rfl, HE.out⟩
      | some xo =>
        obtain ⟨p, q⟩ := xo
        have cp := HP.out.2 p q ho
        obtain ⟨cp, ctx⟩ := cp
        clear ho
        have hb70 := Below.refl V51.heap.size V51
        have hw70 := B6_.out
        have cc := cp V51 hw70
        go_wp2_with fail
        refine cc.mono ?_
        rintro e V71 ⟨v71, rfl, hm71, hn71⟩
        have hb71 := hb70.trans (hn71.mono hb70.size)
        have hw71 := hw70.trans (hn71.mono hw70.size)
        subst hm71
        clear cc hb70 hw70 hn71
        obtain ⟨N8, hNB⟩ : ∃ N8, N8 = V71.heap.size := ⟨_, rfl⟩
        obtain ⟨U8, hU⟩ : ∃ U8, U8 = V71.alloc (.cells #[.int .i64 p, .int .i64 q] 23) := ⟨_, rfl⟩
        have HU := Lib.hid (show U8 = _ ∧ N8 = _ from ⟨hU, hNB⟩)
        clear hU hNB
        go_upto_region 8 with fail
        rw [← HU.out.2, ← HU.out.1]
        have hbU := hb71.alloc hb71.size (.cells #[.int .i64 p, .int .i64 q] 23)
        have hwU := hw71.alloc hw71.size (.cells #[.int .i64 p, .int .i64 q] 23)
        rw [← HU.out.1] at hbU hwU
        have F8_x := Lib.hid (F6_x.out.below hbU F6_x.out.lt)
        have F8_y := Lib.hid (F6_y.out.below hbU F6_y.out.lt)
        have F8_z := Lib.hid (show Two U8 N8 (.int .i64 p) (.int .i64 q) 23 by rw [HU.out.1, HU.out.2]; exact Two.newAt _ _ _ _ _ rfl)
        have B8_ := Lib.hid hwU
        clear HU hbU hwU hb71 hw71 F6_x F6_y B6_
        clear cp
        have k0_0 := F8_z.out.cell0
        have k0_1 := F8_z.out.cell1
        have hb90 := Below.refl U8.heap.size U8
        have hw90 := B8_.out
        have cc := ctx U8 hw90
        go_wp2_with fail
        refine cc.mono ?_
        rintro e V91 ⟨v91, rfl, hm91, hn91⟩
        have hb91 := hb90.trans (hn91.mono hb90.size)
        have hw91 := hw90.trans (hn91.mono hw90.size)
        subst hm91
        clear cc hb90 hw90 hn91
        clear k0_0 k0_1
        have k0_0 := (F8_z.out.below hb91 F8_z.out.lt).cell0
        have k0_1 := (F8_z.out.below hb91 F8_z.out.lt).cell1
        have cc := cl V91 hw91
        go_wp2_with fail
        refine cc.mono ?_
        rintro e V92 ⟨v92, rfl, hm92, hn92⟩
        have hb92 := hb91.trans (hn92.mono hb91.size)
        have hw92 := hw91.trans (hn92.mono hw91.size)
        subst hm92
        clear cc hb91 hw91 hn92
        clear k0_0 k0_1
        have k0_0 := (F8_z.out.below hb92 F8_z.out.lt).cell0
        have k0_1 := (F8_z.out.below hb92 F8_z.out.lt).cell1
        have HE := Lib.hid hw92
        clear hb92 hw92
        go_wp2
        go_ret
        exact ⟨rfl, HE.out⟩
    · obtain ⟨rfl, rfl, rfl, rfl⟩ := hgood hvb
      rw [hvb] at cv
      clear hgood hvb
      have k0_0 := HF.out.cell0
      have k0_1 := HF.out.cell1
      have hb10 := Below.refl W3.heap.size W3
      have hw10 := HBW.out
      have cc := ct W3 hw10
      go_wp2_with fail
      refine cc.mono ?_
      rintro e V11 ⟨v11, rfl, hm11, hn11⟩
      have hb11 := hb10.trans (hn11.mono hb10.size)
      have hw11 := hw10.trans (hn11.mono hw10.size)
      subst hm11
      clear cc hb10 hw10 hn11
      clear k0_0 k0_1
      have k0_0 := (HF.out.below hb11 HF.out.lt).cell0
      have k0_1 := (HF.out.below hb11 HF.out.lt).cell1
      clear ct
      clear k0_0 k0_1
      have F2_x := Lib.hid (HF.out.below hb11 HF.out.lt)
      have B2_ := Lib.hid hw11
      clear hb11 hw11 HF HBW
      have k0_0 := F2_x.out.cell0
      have k0_1 := F2_x.out.cell1
      have hb30 := Below.refl V11.heap.size V11
      have hw30 := B2_.out
      have cc := cg V11 hw30
      go_wp2_with fail
      refine cc.mono ?_
      rintro e V31 ⟨v31, rfl, hm31, hn31⟩
      have hb31 := hb30.trans (hn31.mono hb30.size)
      have hw31 := hw30.trans (hn31.mono hw30.size)
      subst hm31
      clear cc hb30 hw30 hn31
      clear k0_0 k0_1
      have k0_0 := (F2_x.out.below hb31 F2_x.out.lt).cell0
      have k0_1 := (F2_x.out.below hb31 F2_x.out.lt).cell1
      obtain ⟨N4, hNB⟩ : ∃ N4, N4 = V31.heap.size := ⟨_, rfl⟩
      obtain ⟨U4, hU⟩ : ∃ U4, U4 = V31.alloc (.cells #[.int .i64 a, .int .i64 b] 23) := ⟨_, rfl⟩
      have HU := Lib.hid (show U4 = _ ∧ N4 = _ from ⟨hU, hNB⟩)
      clear hU hNB
      go_upto_region 5 with fail
      clear k0_0 k0_1
      rw [← HU.out.2, ← HU.out.1]
      have hbU := hb31.alloc hb31.size (.cells #[.int .i64 a, .int .i64 b] 23)
      have hwU := hw31.alloc hw31.size (.cells #[.int .i64 a, .int .i64 b] 23)
      rw [← HU.out.1] at hbU hwU
      have F4_x := Lib.hid (F2_x.out.below hbU F2_x.out.lt)
      have F4_y := Lib.hid (show Two U4 N4 (.int .i64 a) (.int .i64 b) 23 by rw [HU.out.1, HU.out.2]; exact Two.newAt _ _ _ _ _ rfl)
      have B4_ := Lib.hid hwU
      clear HU hbU hwU hb31 hw31 F2_x B2_
      clear cg
      have k0_0 := F4_x.out.cell0
      have k0_1 := F4_x.out.cell1
      have k1_0 := F4_y.out.cell0
      have k1_1 := F4_y.out.cell1
      have hb50 := Below.refl U4.heap.size U4
      have hw50 := B4_.out
      have cc := cv U4 hw50
      go_wp2_with fail
      refine cc.mono ?_
      rintro e V51 ⟨v51, rfl, hm51, hn51⟩
      have hb51 := hb50.trans (hn51.mono hb50.size)
      have hw51 := hw50.trans (hn51.mono hw50.size)
      subst hm51
      clear cc hb50 hw50 hn51
      clear k0_0 k0_1 k1_0 k1_1
      have k0_0 := (F4_x.out.below hb51 F4_x.out.lt).cell0
      have k0_1 := (F4_x.out.below hb51 F4_x.out.lt).cell1
      have k1_0 := (F4_y.out.below hb51 F4_y.out.lt).cell0
      have k1_1 := (F4_y.out.below hb51 F4_y.out.lt).cell1
      go_upto_region 7 with fail
      clear k0_0 k0_1 k1_0 k1_1
      have F6_x := Lib.hid (F4_x.out.below hb51 F4_x.out.lt)
      have F6_y := Lib.hid (F4_y.out.below hb51 F4_y.out.lt)
      have B6_ := Lib.hid hw51
      clear hb51 hw51 F4_x F4_y B4_
      clear cv
      cases ho : parseM l with
      | none =>
        have cp := HP.out.1 ho
        clear ho
        have hb70 := Below.refl V51.heap.size V51
        have hw70 := B6_.out
        have cc := cp V51 hw70
        go_wp2_with fail
        refine cc.mono ?_
        rintro e V71 ⟨v71, rfl, hm71, hn71⟩
        have hb71 := hb70.trans (hn71.mono hb70.size)
        have hw71 := hw70.trans (hn71.mono hw70.size)
        subst hm71
        clear cc hb70 hw70 hn71
        obtain ⟨N8, hNB⟩ : ∃ N8, N8 = V71.heap.size := ⟨_, rfl⟩
        obtain ⟨U8, hU⟩ : ∃ U8, U8 = V71.alloc (.cells #[.int .i64 0, .int .i64 0] 23) := ⟨_, rfl⟩
        have HU := Lib.hid (show U8 = _ ∧ N8 = _ from ⟨hU, hNB⟩)
        clear hU hNB
        go_upto_region 8 with fail
        rw [← HU.out.2, ← HU.out.1]
        have hbU := hb71.alloc hb71.size (.cells #[.int .i64 0, .int .i64 0] 23)
        have hwU := hw71.alloc hw71.size (.cells #[.int .i64 0, .int .i64 0] 23)
        rw [← HU.out.1] at hbU hwU
        have F8_x := Lib.hid (F6_x.out.below hbU F6_x.out.lt)
        have F8_y := Lib.hid (F6_y.out.below hbU F6_y.out.lt)
        have F8_z := Lib.hid (show Two U8 N8 (.int .i64 0) (.int .i64 0) 23 by rw [HU.out.1, HU.out.2]; exact Two.newAt _ _ _ _ _ rfl)
        have B8_ := Lib.hid hwU
        clear HU hbU hwU hb71 hw71 F6_x F6_y B6_
        clear cp
        have k0_0 := F8_z.out.cell0
        have k0_1 := F8_z.out.cell1
        have hb90 := Below.refl U8.heap.size U8
        have hw90 := B8_.out
        have cc := cl U8 hw90
        go_wp2_with fail
        refine cc.mono ?_
        rintro e V91 ⟨v91, rfl, hm91, hn91⟩
        have hb91 := hb90.trans (hn91.mono hb90.size)
        have hw91 := hw90.trans (hn91.mono hw90.size)
        subst hm91
        clear cc hb90 hw90 hn91
        clear k0_0 k0_1
        have k0_0 := (F8_z.out.below hb91 F8_z.out.lt).cell0
        have k0_1 := (F8_z.out.below hb91 F8_z.out.lt).cell1
        have HE := Lib.hid hw91
        clear hb91 hw91
        go_wp2
        go_ret
        exact ⟨rfl, HE.out⟩
      | some xo =>
        obtain ⟨p, q⟩ := xo
        have cp := HP.out.2 p q ho
        obtain ⟨cp, ctx⟩ := cp
        clear ho
        have hb70 := Below.refl V51.heap.size V51
        have hw70 := B6_.out
        have cc := cp V51 hw70
        go_wp2_with fail
        refine cc.mono ?_
        rintro e V71 ⟨v71, rfl, hm71, hn71⟩
        have hb71 := hb70.trans (hn71.mono hb70.size)
        have hw71 := hw70.trans (hn71.mono hw70.size)
        subst hm71
        clear cc hb70 hw70 hn71
        obtain ⟨N8, hNB⟩ : ∃ N8, N8 = V71.heap.size := ⟨_, rfl⟩
        obtain ⟨U8, hU⟩ : ∃ U8, U8 = V71.alloc (.cells #[.int .i64 p, .int .i64 q] 23) := ⟨_, rfl⟩
        have HU := Lib.hid (show U8 = _ ∧ N8 = _ from ⟨hU, hNB⟩)
        clear hU hNB
        go_upto_region 8 with fail
        rw [← HU.out.2, ← HU.out.1]
        have hbU := hb71.alloc hb71.size (.cells #[.int .i64 p, .int .i64 q] 23)
        have hwU := hw71.alloc hw71.size (.cells #[.int .i64 p, .int .i64 q] 23)
        rw [← HU.out.1] at hbU hwU
        have F8_x := Lib.hid (F6_x.out.below hbU F6_x.out.lt)
        have F8_y := Lib.hid (F6_y.out.below hbU F6_y.out.lt)
        have F8_z := Lib.hid (show Two U8 N8 (.int .i64 p) (.int .i64 q) 23 by rw [HU.out.1, HU.out.2]; exact Two.newAt _ _ _ _ _ rfl)
        have B8_ := Lib.hid hwU
        clear HU hbU hwU hb71 hw71 F6_x F6_y B6_
        clear cp
        have k0_0 := F8_z.out.cell0
        have k0_1 := F8_z.out.cell1
        have hb90 := Below.refl U8.heap.size U8
        have hw90 := B8_.out
        have cc := ctx U8 hw90
        go_wp2_with fail
        refine cc.mono ?_
        rintro e V91 ⟨v91, rfl, hm91, hn91⟩
        have hb91 := hb90.trans (hn91.mono hb90.size)
        have hw91 := hw90.trans (hn91.mono hw90.size)
        subst hm91
        clear cc hb90 hw90 hn91
        clear k0_0 k0_1
        have k0_0 := (F8_z.out.below hb91 F8_z.out.lt).cell0
        have k0_1 := (F8_z.out.below hb91 F8_z.out.lt).cell1
        have cc := cl V91 hw91
        go_wp2_with fail
        refine cc.mono ?_
        rintro e V92 ⟨v92, rfl, hm92, hn92⟩
        have hb92 := hb91.trans (hn92.mono hb91.size)
        have hw92 := hw91.trans (hn92.mono hw91.size)
        subst hm92
        clear cc hb91 hw91 hn92
        clear k0_0 k0_1
        have k0_0 := (F8_z.out.below hb92 F8_z.out.lt).cell0
        have k0_1 := (F8_z.out.below hb92 F8_z.out.lt).cell1
        have HE := Lib.hid hw92
        clear hb92 hw92
        go_wp2
        go_ret
        exact ⟨rfl, HE.out⟩
  · obtain rfl : L = l := by rw [← hl]; exact (List.take_of_length_le h100).symm
    have d1 : ¬ (100 : Int) < (L.length : Int) := by omega
    clear hl
    go_enter Tryz.func5, Tryz.ntmps5
    go_upto_region 3 with fail
    rw [← hW3]
    clear hW3
    clear d1 h100
    cases hvb : vb.1
    · rw [hvb] at cv
      clear hgood hvb
      have k0_0 := HF.out.cell0
      have k0_1 := HF.out.cell1
      have hb10 := Below.refl W3.heap.size W3
      have hw10 := HBW.out
      have cc := ct W3 hw10
      go_wp2_with fail
      refine cc.mono ?_
      rintro e V11 ⟨v11, rfl, hm11, hn11⟩
      have hb11 := hb10.trans (hn11.mono hb10.size)
      have hw11 := hw10.trans (hn11.mono hw10.size)
      subst hm11
      clear cc hb10 hw10 hn11
      clear k0_0 k0_1
      have k0_0 := (HF.out.below hb11 HF.out.lt).cell0
      have k0_1 := (HF.out.below hb11 HF.out.lt).cell1
      clear ct
      clear k0_0 k0_1
      have F2_x := Lib.hid (HF.out.below hb11 HF.out.lt)
      have B2_ := Lib.hid hw11
      clear hb11 hw11 HF HBW
      have k0_0 := F2_x.out.cell0
      have k0_1 := F2_x.out.cell1
      have hb30 := Below.refl V11.heap.size V11
      have hw30 := B2_.out
      have cc := cg V11 hw30
      go_wp2_with fail
      refine cc.mono ?_
      rintro e V31 ⟨v31, rfl, hm31, hn31⟩
      have hb31 := hb30.trans (hn31.mono hb30.size)
      have hw31 := hw30.trans (hn31.mono hw30.size)
      subst hm31
      clear cc hb30 hw30 hn31
      clear k0_0 k0_1
      have k0_0 := (F2_x.out.below hb31 F2_x.out.lt).cell0
      have k0_1 := (F2_x.out.below hb31 F2_x.out.lt).cell1
      obtain ⟨N4, hNB⟩ : ∃ N4, N4 = V31.heap.size := ⟨_, rfl⟩
      obtain ⟨U4, hU⟩ : ∃ U4, U4 = V31.alloc (.cells #[.int .i64 a, .int .i64 b] 23) := ⟨_, rfl⟩
      have HU := Lib.hid (show U4 = _ ∧ N4 = _ from ⟨hU, hNB⟩)
      clear hU hNB
      go_upto_region 5 with fail
      clear k0_0 k0_1
      rw [← HU.out.2, ← HU.out.1]
      have hbU := hb31.alloc hb31.size (.cells #[.int .i64 a, .int .i64 b] 23)
      have hwU := hw31.alloc hw31.size (.cells #[.int .i64 a, .int .i64 b] 23)
      rw [← HU.out.1] at hbU hwU
      have F4_x := Lib.hid (F2_x.out.below hbU F2_x.out.lt)
      have F4_y := Lib.hid (show Two U4 N4 (.int .i64 a) (.int .i64 b) 23 by rw [HU.out.1, HU.out.2]; exact Two.newAt _ _ _ _ _ rfl)
      have B4_ := Lib.hid hwU
      clear HU hbU hwU hb31 hw31 F2_x B2_
      clear cg
      have k0_0 := F4_x.out.cell0
      have k0_1 := F4_x.out.cell1
      have k1_0 := F4_y.out.cell0
      have k1_1 := F4_y.out.cell1
      have hb50 := Below.refl U4.heap.size U4
      have hw50 := B4_.out
      have cc := cv U4 hw50
      go_wp2_with fail
      refine cc.mono ?_
      rintro e V51 ⟨v51, rfl, hm51, hn51⟩
      have hb51 := hb50.trans (hn51.mono hb50.size)
      have hw51 := hw50.trans (hn51.mono hw50.size)
      subst hm51
      clear cc hb50 hw50 hn51
      clear k0_0 k0_1 k1_0 k1_1
      have k0_0 := (F4_x.out.below hb51 F4_x.out.lt).cell0
      have k0_1 := (F4_x.out.below hb51 F4_x.out.lt).cell1
      have k1_0 := (F4_y.out.below hb51 F4_y.out.lt).cell0
      have k1_1 := (F4_y.out.below hb51 F4_y.out.lt).cell1
      go_upto_region 7 with fail
      clear k0_0 k0_1 k1_0 k1_1
      have F6_x := Lib.hid (F4_x.out.below hb51 F4_x.out.lt)
      have F6_y := Lib.hid (F4_y.out.below hb51 F4_y.out.lt)
      have B6_ := Lib.hid hw51
      clear hb51 hw51 F4_x F4_y B4_
      clear cv
      cases ho : parseM L with
      | none =>
        have cp := HP.out.1 ho
        clear ho
        have hb70 := Below.refl V51.heap.size V51
        have hw70 := B6_.out
        have cc := cp V51 hw70
        go_wp2_with fail
        refine cc.mono ?_
        rintro e V71 ⟨v71, rfl, hm71, hn71⟩
        have hb71 := hb70.trans (hn71.mono hb70.size)
        have hw71 := hw70.trans (hn71.mono hw70.size)
        subst hm71
        clear cc hb70 hw70 hn71
        obtain ⟨N8, hNB⟩ : ∃ N8, N8 = V71.heap.size := ⟨_, rfl⟩
        obtain ⟨U8, hU⟩ : ∃ U8, U8 = V71.alloc (.cells #[.int .i64 0, .int .i64 0] 23) := ⟨_, rfl⟩
        have HU := Lib.hid (show U8 = _ ∧ N8 = _ from ⟨hU, hNB⟩)
        clear hU hNB
        go_upto_region 8 with fail
        rw [← HU.out.2, ← HU.out.1]
        have hbU := hb71.alloc hb71.size (.cells #[.int .i64 0, .int .i64 0] 23)
        have hwU := hw71.alloc hw71.size (.cells #[.int .i64 0, .int .i64 0] 23)
        rw [← HU.out.1] at hbU hwU
        have F8_x := Lib.hid (F6_x.out.below hbU F6_x.out.lt)
        have F8_y := Lib.hid (F6_y.out.below hbU F6_y.out.lt)
        have F8_z := Lib.hid (show Two U8 N8 (.int .i64 0) (.int .i64 0) 23 by rw [HU.out.1, HU.out.2]; exact Two.newAt _ _ _ _ _ rfl)
        have B8_ := Lib.hid hwU
        clear HU hbU hwU hb71 hw71 F6_x F6_y B6_
        clear cp
        have k0_0 := F8_z.out.cell0
        have k0_1 := F8_z.out.cell1
        have hb90 := Below.refl U8.heap.size U8
        have hw90 := B8_.out
        have cc := cl U8 hw90
        go_wp2_with fail
        refine cc.mono ?_
        rintro e V91 ⟨v91, rfl, hm91, hn91⟩
        have hb91 := hb90.trans (hn91.mono hb90.size)
        have hw91 := hw90.trans (hn91.mono hw90.size)
        subst hm91
        clear cc hb90 hw90 hn91
        clear k0_0 k0_1
        have k0_0 := (F8_z.out.below hb91 F8_z.out.lt).cell0
        have k0_1 := (F8_z.out.below hb91 F8_z.out.lt).cell1
        have HE := Lib.hid hw91
        clear hb91 hw91
        go_wp2
        go_ret
        exact ⟨rfl, HE.out⟩
      | some xo =>
        obtain ⟨p, q⟩ := xo
        have cp := HP.out.2 p q ho
        obtain ⟨cp, ctx⟩ := cp
        clear ho
        have hb70 := Below.refl V51.heap.size V51
        have hw70 := B6_.out
        have cc := cp V51 hw70
        go_wp2_with fail
        refine cc.mono ?_
        rintro e V71 ⟨v71, rfl, hm71, hn71⟩
        have hb71 := hb70.trans (hn71.mono hb70.size)
        have hw71 := hw70.trans (hn71.mono hw70.size)
        subst hm71
        clear cc hb70 hw70 hn71
        obtain ⟨N8, hNB⟩ : ∃ N8, N8 = V71.heap.size := ⟨_, rfl⟩
        obtain ⟨U8, hU⟩ : ∃ U8, U8 = V71.alloc (.cells #[.int .i64 p, .int .i64 q] 23) := ⟨_, rfl⟩
        have HU := Lib.hid (show U8 = _ ∧ N8 = _ from ⟨hU, hNB⟩)
        clear hU hNB
        go_upto_region 8 with fail
        rw [← HU.out.2, ← HU.out.1]
        have hbU := hb71.alloc hb71.size (.cells #[.int .i64 p, .int .i64 q] 23)
        have hwU := hw71.alloc hw71.size (.cells #[.int .i64 p, .int .i64 q] 23)
        rw [← HU.out.1] at hbU hwU
        have F8_x := Lib.hid (F6_x.out.below hbU F6_x.out.lt)
        have F8_y := Lib.hid (F6_y.out.below hbU F6_y.out.lt)
        have F8_z := Lib.hid (show Two U8 N8 (.int .i64 p) (.int .i64 q) 23 by rw [HU.out.1, HU.out.2]; exact Two.newAt _ _ _ _ _ rfl)
        have B8_ := Lib.hid hwU
        clear HU hbU hwU hb71 hw71 F6_x F6_y B6_
        clear cp
        have k0_0 := F8_z.out.cell0
        have k0_1 := F8_z.out.cell1
        have hb90 := Below.refl U8.heap.size U8
        have hw90 := B8_.out
        have cc := ctx U8 hw90
        go_wp2_with fail
        refine cc.mono ?_
        rintro e V91 ⟨v91, rfl, hm91, hn91⟩
        have hb91 := hb90.trans (hn91.mono hb90.size)
        have hw91 := hw90.trans (hn91.mono hw90.size)
        subst hm91
        clear cc hb90 hw90 hn91
        clear k0_0 k0_1
        have k0_0 := (F8_z.out.below hb91 F8_z.out.lt).cell0
        have k0_1 := (F8_z.out.below hb91 F8_z.out.lt).cell1
        have cc := cl V91 hw91
        go_wp2_with fail
        refine cc.mono ?_
        rintro e V92 ⟨v92, rfl, hm92, hn92⟩
        have hb92 := hb91.trans (hn92.mono hb91.size)
        have hw92 := hw91.trans (hn92.mono hw91.size)
        subst hm92
        clear cc hb91 hw91 hn92
        clear k0_0 k0_1
        have k0_0 := (F8_z.out.below hb92 F8_z.out.lt).cell0
        have k0_1 := (F8_z.out.below hb92 F8_z.out.lt).cell1
        have HE := Lib.hid hw92
        clear hb92 hw92
        go_wp2
        go_ret
        exact ⟨rfl, HE.out⟩
    · obtain ⟨rfl, rfl, rfl, rfl⟩ := hgood hvb
      rw [hvb] at cv
      clear hgood hvb
      have k0_0 := HF.out.cell0
      have k0_1 := HF.out.cell1
      have hb10 := Below.refl W3.heap.size W3
      have hw10 := HBW.out
      have cc := ct W3 hw10
      go_wp2_with fail
      refine cc.mono ?_
      rintro e V11 ⟨v11, rfl, hm11, hn11⟩
      have hb11 := hb10.trans (hn11.mono hb10.size)
      have hw11 := hw10.trans (hn11.mono hw10.size)
      subst hm11
      clear cc hb10 hw10 hn11
      clear k0_0 k0_1
      have k0_0 := (HF.out.below hb11 HF.out.lt).cell0
      have k0_1 := (HF.out.below hb11 HF.out.lt).cell1
      clear ct
      clear k0_0 k0_1
      have F2_x := Lib.hid (HF.out.below hb11 HF.out.lt)
      have B2_ := Lib.hid hw11
      clear hb11 hw11 HF HBW
      have k0_0 := F2_x.out.cell0
      have k0_1 := F2_x.out.cell1
      have hb30 := Below.refl V11.heap.size V11
      have hw30 := B2_.out
      have cc := cg V11 hw30
      go_wp2_with fail
      refine cc.mono ?_
      rintro e V31 ⟨v31, rfl, hm31, hn31⟩
      have hb31 := hb30.trans (hn31.mono hb30.size)
      have hw31 := hw30.trans (hn31.mono hw30.size)
      subst hm31
      clear cc hb30 hw30 hn31
      clear k0_0 k0_1
      have k0_0 := (F2_x.out.below hb31 F2_x.out.lt).cell0
      have k0_1 := (F2_x.out.below hb31 F2_x.out.lt).cell1
      obtain ⟨N4, hNB⟩ : ∃ N4, N4 = V31.heap.size := ⟨_, rfl⟩
      obtain ⟨U4, hU⟩ : ∃ U4, U4 = V31.alloc (.cells #[.int .i64 a, .int .i64 b] 23) := ⟨_, rfl⟩
      have HU := Lib.hid (show U4 = _ ∧ N4 = _ from ⟨hU, hNB⟩)
      clear hU hNB
      go_upto_region 5 with fail
      clear k0_0 k0_1
      rw [← HU.out.2, ← HU.out.1]
      have hbU := hb31.alloc hb31.size (.cells #[.int .i64 a, .int .i64 b] 23)
      have hwU := hw31.alloc hw31.size (.cells #[.int .i64 a, .int .i64 b] 23)
      rw [← HU.out.1] at hbU hwU
      have F4_x := Lib.hid (F2_x.out.below hbU F2_x.out.lt)
      have F4_y := Lib.hid (show Two U4 N4 (.int .i64 a) (.int .i64 b) 23 by rw [HU.out.1, HU.out.2]; exact Two.newAt _ _ _ _ _ rfl)
      have B4_ := Lib.hid hwU
      clear HU hbU hwU hb31 hw31 F2_x B2_
      clear cg
      have k0_0 := F4_x.out.cell0
      have k0_1 := F4_x.out.cell1
      have k1_0 := F4_y.out.cell0
      have k1_1 := F4_y.out.cell1
      have hb50 := Below.refl U4.heap.size U4
      have hw50 := B4_.out
      have cc := cv U4 hw50
      go_wp2_with fail
      refine cc.mono ?_
      rintro e V51 ⟨v51, rfl, hm51, hn51⟩
      have hb51 := hb50.trans (hn51.mono hb50.size)
      have hw51 := hw50.trans (hn51.mono hw50.size)
      subst hm51
      clear cc hb50 hw50 hn51
      clear k0_0 k0_1 k1_0 k1_1
      have k0_0 := (F4_x.out.below hb51 F4_x.out.lt).cell0
      have k0_1 := (F4_x.out.below hb51 F4_x.out.lt).cell1
      have k1_0 := (F4_y.out.below hb51 F4_y.out.lt).cell0
      have k1_1 := (F4_y.out.below hb51 F4_y.out.lt).cell1
      go_upto_region 7 with fail
      clear k0_0 k0_1 k1_0 k1_1
      have F6_x := Lib.hid (F4_x.out.below hb51 F4_x.out.lt)
      have F6_y := Lib.hid (F4_y.out.below hb51 F4_y.out.lt)
      have B6_ := Lib.hid hw51
      clear hb51 hw51 F4_x F4_y B4_
      clear cv
      cases ho : parseM L with
      | none =>
        have cp := HP.out.1 ho
        clear ho
        have hb70 := Below.refl V51.heap.size V51
        have hw70 := B6_.out
        have cc := cp V51 hw70
        go_wp2_with fail
        refine cc.mono ?_
        rintro e V71 ⟨v71, rfl, hm71, hn71⟩
        have hb71 := hb70.trans (hn71.mono hb70.size)
        have hw71 := hw70.trans (hn71.mono hw70.size)
        subst hm71
        clear cc hb70 hw70 hn71
        obtain ⟨N8, hNB⟩ : ∃ N8, N8 = V71.heap.size := ⟨_, rfl⟩
        obtain ⟨U8, hU⟩ : ∃ U8, U8 = V71.alloc (.cells #[.int .i64 0, .int .i64 0] 23) := ⟨_, rfl⟩
        have HU := Lib.hid (show U8 = _ ∧ N8 = _ from ⟨hU, hNB⟩)
        clear hU hNB
        go_upto_region 8 with fail
        rw [← HU.out.2, ← HU.out.1]
        have hbU := hb71.alloc hb71.size (.cells #[.int .i64 0, .int .i64 0] 23)
        have hwU := hw71.alloc hw71.size (.cells #[.int .i64 0, .int .i64 0] 23)
        rw [← HU.out.1] at hbU hwU
        have F8_x := Lib.hid (F6_x.out.below hbU F6_x.out.lt)
        have F8_y := Lib.hid (F6_y.out.below hbU F6_y.out.lt)
        have F8_z := Lib.hid (show Two U8 N8 (.int .i64 0) (.int .i64 0) 23 by rw [HU.out.1, HU.out.2]; exact Two.newAt _ _ _ _ _ rfl)
        have B8_ := Lib.hid hwU
        clear HU hbU hwU hb71 hw71 F6_x F6_y B6_
        clear cp
        have k0_0 := F8_z.out.cell0
        have k0_1 := F8_z.out.cell1
        have hb90 := Below.refl U8.heap.size U8
        have hw90 := B8_.out
        have cc := cl U8 hw90
        go_wp2_with fail
        refine cc.mono ?_
        rintro e V91 ⟨v91, rfl, hm91, hn91⟩
        have hb91 := hb90.trans (hn91.mono hb90.size)
        have hw91 := hw90.trans (hn91.mono hw90.size)
        subst hm91
        clear cc hb90 hw90 hn91
        clear k0_0 k0_1
        have k0_0 := (F8_z.out.below hb91 F8_z.out.lt).cell0
        have k0_1 := (F8_z.out.below hb91 F8_z.out.lt).cell1
        have HE := Lib.hid hw91
        clear hb91 hw91
        go_wp2
        go_ret
        exact ⟨rfl, HE.out⟩
      | some xo =>
        obtain ⟨p, q⟩ := xo
        have cp := HP.out.2 p q ho
        obtain ⟨cp, ctx⟩ := cp
        clear ho
        have hb70 := Below.refl V51.heap.size V51
        have hw70 := B6_.out
        have cc := cp V51 hw70
        go_wp2_with fail
        refine cc.mono ?_
        rintro e V71 ⟨v71, rfl, hm71, hn71⟩
        have hb71 := hb70.trans (hn71.mono hb70.size)
        have hw71 := hw70.trans (hn71.mono hw70.size)
        subst hm71
        clear cc hb70 hw70 hn71
        obtain ⟨N8, hNB⟩ : ∃ N8, N8 = V71.heap.size := ⟨_, rfl⟩
        obtain ⟨U8, hU⟩ : ∃ U8, U8 = V71.alloc (.cells #[.int .i64 p, .int .i64 q] 23) := ⟨_, rfl⟩
        have HU := Lib.hid (show U8 = _ ∧ N8 = _ from ⟨hU, hNB⟩)
        clear hU hNB
        go_upto_region 8 with fail
        rw [← HU.out.2, ← HU.out.1]
        have hbU := hb71.alloc hb71.size (.cells #[.int .i64 p, .int .i64 q] 23)
        have hwU := hw71.alloc hw71.size (.cells #[.int .i64 p, .int .i64 q] 23)
        rw [← HU.out.1] at hbU hwU
        have F8_x := Lib.hid (F6_x.out.below hbU F6_x.out.lt)
        have F8_y := Lib.hid (F6_y.out.below hbU F6_y.out.lt)
        have F8_z := Lib.hid (show Two U8 N8 (.int .i64 p) (.int .i64 q) 23 by rw [HU.out.1, HU.out.2]; exact Two.newAt _ _ _ _ _ rfl)
        have B8_ := Lib.hid hwU
        clear HU hbU hwU hb71 hw71 F6_x F6_y B6_
        clear cp
        have k0_0 := F8_z.out.cell0
        have k0_1 := F8_z.out.cell1
        have hb90 := Below.refl U8.heap.size U8
        have hw90 := B8_.out
        have cc := ctx U8 hw90
        go_wp2_with fail
        refine cc.mono ?_
        rintro e V91 ⟨v91, rfl, hm91, hn91⟩
        have hb91 := hb90.trans (hn91.mono hb90.size)
        have hw91 := hw90.trans (hn91.mono hw90.size)
        subst hm91
        clear cc hb90 hw90 hn91
        clear k0_0 k0_1
        have k0_0 := (F8_z.out.below hb91 F8_z.out.lt).cell0
        have k0_1 := (F8_z.out.below hb91 F8_z.out.lt).cell1
        have cc := cl V91 hw91
        go_wp2_with fail
        refine cc.mono ?_
        rintro e V92 ⟨v92, rfl, hm92, hn92⟩
        have hb92 := hb91.trans (hn92.mono hb91.size)
        have hw92 := hw91.trans (hn92.mono hw91.size)
        subst hm92
        clear cc hb91 hw91 hn92
        clear k0_0 k0_1
        have k0_0 := (F8_z.out.below hb92 F8_z.out.lt).cell0
        have k0_1 := (F8_z.out.below hb92 F8_z.out.lt).cell1
        have HE := Lib.hid hw92
        clear hb92 hw92
        go_wp2
        go_ret
        exact ⟨rfl, HE.out⟩
end Go.Proofs.YtklngjjokbhfpaaGreatDoor
