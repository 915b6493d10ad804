/- The walk of GearAdds (printed by gengd.py). -/
import Derived.Test.YtklngjjokbhfpaaGreatGa
import Derived.Test.YtklngjjokbhfpaaGreatCr
import Derived.Test.YtklngjjokbhfpaaGreatLz
namespace Go.Proofs.YtklngjjokbhfpaaGreat
open Go.RowKit

theorem IsRQ.stored4 {w : World} {v : Value} {p q : Int} {N R : Nat} {u0 u1 u2 u3 : Value} {t : TypeId} (h : IsRQ w v p q N) (hR : Four w R (.bool false) (.slice none 0 0) (.bool false) (.slice none 0 0) t) : IsRQ ((((w.setCell ⟨R, 0, none⟩ u0).setCell ⟨R, 1, none⟩ u1).setCell ⟨R, 2, none⟩ u2).setCell ⟨R, 3, none⟩ u3) v p q N := by
  obtain ⟨na, a, nb, b, rfl, h1, h2⟩ := h
  exact ⟨na, a, nb, b, rfl, h1.storedQ hR, h2.storedQ hR⟩

set_option maxRecDepth 100000 in
set_option maxHeartbeats 3200000 in
theorem adds_bad0 (p q r s : Int) (w : World) (hp : I64 p) (hq : I64 q) (hr : I64 r) (hs : I64 s) (h : ¬ FOk (p, q)) :
    Calls Tryz.prog 7 #[.agg #[.int .i64 p, .int .i64 q], .agg #[.int .i64 r, .int .i64 s]] w (RetV (.bool true) w) := by
  have c1 : ∀ W (_ : Below w.heap.size w W), Calls Tryz.prog 36 #[.agg #[.int .i64 p, .int .i64 q], .agg #[.int .i64 r, .int .i64 s]] W (RetW (.tuple #[.agg #[.int .i64 0, .int .i64 0], .int .i64 2]) W) := fun W _ => by
    exact (gadd_bad p q r s W hp hq hr hs (fun g => h g.1)).mono fun e w' h => RetW.of h
  have c2 : ∀ W (_ : Below w.heap.size w W), Calls Tryz.prog 34 #[.agg #[.int .i64 p, .int .i64 q], .agg #[.int .i64 r, .int .i64 s]] W (RetW (.tuple #[.agg #[.int .i64 0, .int .i64 0], .int .i64 2]) W) := fun W _ => by
    exact (gsub_bad p q r s W hp hq hr hs (fun g => h g.1)).mono fun e w' h => RetW.of h
  have c3 : ∀ W (_ : Below w.heap.size w W), Calls Tryz.prog 37 #[.agg #[.int .i64 p, .int .i64 q], .agg #[.int .i64 r, .int .i64 s]] W (RetW (.tuple #[.agg #[.int .i64 0, .int .i64 0], .int .i64 2]) W) := fun W _ => by
    exact (gmul_bad p q r s W hp hq hr hs (fun g => h g.1)).mono fun e w' h => RetW.of h
  have c4 : ∀ W (_ : Below w.heap.size w W), Calls Tryz.prog 35 #[.agg #[.int .i64 p, .int .i64 q], .agg #[.int .i64 r, .int .i64 s]] W (RetW (.tuple #[.agg #[.int .i64 0, .int .i64 0], .int .i64 2]) W) := fun W _ => by
    exact (gdiv_bad p q r s W hp hq hr hs (fun g => h g.1)).mono fun e w' h => RetW.of h
  have c5 : ∀ W (_ : Below w.heap.size w W), Calls Tryz.prog 38 #[.agg #[.int .i64 p, .int .i64 q], .agg #[.int .i64 r, .int .i64 s]] W (RetW (.tuple #[.int .i64 0, .int .i64 2]) W) := fun W _ => by
    exact (gcmp_bad p q r s W hp hq hr hs (fun g => h g.1)).mono fun e w' h => RetW.of h
  have cv1 := valid_y p q false (decide_eq_false h) (w := w)
  have ci := is_w 0 0 2 (w := w)
  have cl := lives_y (w := w)
  clear h hp hq hr hs
  obtain ⟨W3, hW3⟩ : ∃ W3, W3 = ((w.alloc (.cells #[.int .i64 p, .int .i64 q] 28)).alloc (.cells #[.int .i64 r, .int .i64 s] 28)) := ⟨_, rfl⟩
  have hB : Below w.heap.size w W3 := by rw [hW3]; exact (((Below.refl _ _).alloc (Nat.le_refl _) _).alloc (by simp; try omega) _)
  have HBW := Lib.hid hB
  have HF := Lib.hid (show Two W3 (w.heap.size) (.int .i64 p) (.int .i64 q) 28 by rw [hW3]; exact (((Two.newAt _ _ _ _ _ (by simp))).alloc _))
  have HG := Lib.hid (show Two W3 (w.heap.size + 1) (.int .i64 r) (.int .i64 s) 28 by rw [hW3]; exact (Two.newAt _ _ _ _ _ (by simp)))
  clear hB
  go_enter Tryz.func7, Tryz.ntmps7
  go_upto_region 1 with fail
  rw [← hW3]
  clear hW3
  have k0_0 := HF.out.cell0
  have k0_1 := HF.out.cell1
  have k1_0 := HG.out.cell0
  have k1_1 := HG.out.cell1
  have hb10 := Below.refl W3.heap.size W3
  have hw10 := HBW.out
  have cc := c1 W3 hw10
  go_wp2_with fail
  refine cc.mono ?_
  rintro e V11 ⟨v11, rfl, hm11, hn11⟩
  have hb11 := hb10.trans (hn11.mono hb10.size)
  have hw11 := hw10.trans (hn11.mono hw10.size)
  subst hm11
  clear cc hb10 hw10 hn11
  clear k0_0 k0_1 k1_0 k1_1
  have k0_0 := (HF.out.below hb11 HF.out.lt).cell0
  have k0_1 := (HF.out.below hb11 HF.out.lt).cell1
  have k1_0 := (HG.out.below hb11 HG.out.lt).cell0
  have k1_1 := (HG.out.below hb11 HG.out.lt).cell1
  obtain ⟨N2, hNB⟩ : ∃ N2, N2 = V11.heap.size := ⟨_, rfl⟩
  obtain ⟨U2, hU⟩ : ∃ U2, U2 = V11.alloc (.cells #[.int .i64 0, .int .i64 0] 28) := ⟨_, rfl⟩
  have HU := Lib.hid (show U2 = _ ∧ N2 = _ from ⟨hU, hNB⟩)
  clear hU hNB
  go_upto_region 2 with fail
  clear k0_0 k0_1 k1_0 k1_1
  rw [← HU.out.2, ← HU.out.1]
  have hbU := hb11.alloc hb11.size (.cells #[.int .i64 0, .int .i64 0] 28)
  have hwU := hw11.alloc hw11.size (.cells #[.int .i64 0, .int .i64 0] 28)
  rw [← HU.out.1] at hbU hwU
  have F2_p := Lib.hid (HF.out.below hbU HF.out.lt)
  have F2_r := Lib.hid (HG.out.below hbU HG.out.lt)
  have F2_s := Lib.hid (show Two U2 N2 (.int .i64 0) (.int .i64 0) 28 by rw [HU.out.1, HU.out.2]; exact Two.newAt _ _ _ _ _ rfl)
  have B2_ := Lib.hid hwU
  clear HU hbU hwU hb11 hw11 HF HG HBW
  have k0_0 := F2_p.out.cell0
  have k0_1 := F2_p.out.cell1
  have k1_0 := F2_r.out.cell0
  have k1_1 := F2_r.out.cell1
  have hb30 := Below.refl U2.heap.size U2
  have hw30 := B2_.out
  have cc := c2 U2 hw30
  go_wp2_with fail
  refine cc.mono ?_
  rintro e V31 ⟨v31, rfl, hm31, hn31⟩
  have hb31 := hb30.trans (hn31.mono hb30.size)
  have hw31 := hw30.trans (hn31.mono hw30.size)
  subst hm31
  clear cc hb30 hw30 hn31
  clear k0_0 k0_1 k1_0 k1_1
  have k0_0 := (F2_p.out.below hb31 F2_p.out.lt).cell0
  have k0_1 := (F2_p.out.below hb31 F2_p.out.lt).cell1
  have k1_0 := (F2_r.out.below hb31 F2_r.out.lt).cell0
  have k1_1 := (F2_r.out.below hb31 F2_r.out.lt).cell1
  obtain ⟨N4, hNB⟩ : ∃ N4, N4 = V31.heap.size := ⟨_, rfl⟩
  obtain ⟨U4, hU⟩ : ∃ U4, U4 = V31.alloc (.cells #[.int .i64 0, .int .i64 0] 28) := ⟨_, rfl⟩
  have HU := Lib.hid (show U4 = _ ∧ N4 = _ from ⟨hU, hNB⟩)
  clear hU hNB
  go_upto_region 3 with fail
  clear k0_0 k0_1 k1_0 k1_1
  rw [← HU.out.2, ← HU.out.1]
  have hbU := hb31.alloc hb31.size (.cells #[.int .i64 0, .int .i64 0] 28)
  have hwU := hw31.alloc hw31.size (.cells #[.int .i64 0, .int .i64 0] 28)
  rw [← HU.out.1] at hbU hwU
  have F4_p := Lib.hid (F2_p.out.below hbU F2_p.out.lt)
  have F4_r := Lib.hid (F2_r.out.below hbU F2_r.out.lt)
  have F4_s := Lib.hid (F2_s.out.below hbU F2_s.out.lt)
  have F4_d := Lib.hid (show Two U4 N4 (.int .i64 0) (.int .i64 0) 28 by rw [HU.out.1, HU.out.2]; exact Two.newAt _ _ _ _ _ rfl)
  have B4_ := Lib.hid hwU
  clear HU hbU hwU hb31 hw31 F2_p F2_r F2_s B2_
  have k0_0 := F4_p.out.cell0
  have k0_1 := F4_p.out.cell1
  have k1_0 := F4_r.out.cell0
  have k1_1 := F4_r.out.cell1
  have hb50 := Below.refl U4.heap.size U4
  have hw50 := B4_.out
  have cc := c3 U4 hw50
  go_wp2_with fail
  refine cc.mono ?_
  rintro e V51 ⟨v51, rfl, hm51, hn51⟩
  have hb51 := hb50.trans (hn51.mono hb50.size)
  have hw51 := hw50.trans (hn51.mono hw50.size)
  subst hm51
  clear cc hb50 hw50 hn51
  clear k0_0 k0_1 k1_0 k1_1
  have k0_0 := (F4_p.out.below hb51 F4_p.out.lt).cell0
  have k0_1 := (F4_p.out.below hb51 F4_p.out.lt).cell1
  have k1_0 := (F4_r.out.below hb51 F4_r.out.lt).cell0
  have k1_1 := (F4_r.out.below hb51 F4_r.out.lt).cell1
  obtain ⟨N6, hNB⟩ : ∃ N6, N6 = V51.heap.size := ⟨_, rfl⟩
  obtain ⟨U6, hU⟩ : ∃ U6, U6 = V51.alloc (.cells #[.int .i64 0, .int .i64 0] 28) := ⟨_, rfl⟩
  have HU := Lib.hid (show U6 = _ ∧ N6 = _ from ⟨hU, hNB⟩)
  clear hU hNB
  go_upto_region 4 with fail
  clear k0_0 k0_1 k1_0 k1_1
  rw [← HU.out.2, ← HU.out.1]
  have hbU := hb51.alloc hb51.size (.cells #[.int .i64 0, .int .i64 0] 28)
  have hwU := hw51.alloc hw51.size (.cells #[.int .i64 0, .int .i64 0] 28)
  rw [← HU.out.1] at hbU hwU
  have F6_p := Lib.hid (F4_p.out.below hbU F4_p.out.lt)
  have F6_r := Lib.hid (F4_r.out.below hbU F4_r.out.lt)
  have F6_s := Lib.hid (F4_s.out.below hbU F4_s.out.lt)
  have F6_d := Lib.hid (F4_d.out.below hbU F4_d.out.lt)
  have F6_m := Lib.hid (show Two U6 N6 (.int .i64 0) (.int .i64 0) 28 by rw [HU.out.1, HU.out.2]; exact Two.newAt _ _ _ _ _ rfl)
  have B6_ := Lib.hid hwU
  clear HU hbU hwU hb51 hw51 F4_p F4_r F4_s F4_d B4_
  have k0_0 := F6_p.out.cell0
  have k0_1 := F6_p.out.cell1
  have k1_0 := F6_r.out.cell0
  have k1_1 := F6_r.out.cell1
  have hb70 := Below.refl U6.heap.size U6
  have hw70 := B6_.out
  have cc := c4 U6 hw70
  go_wp2_with fail
  refine cc.mono ?_
  rintro e V71 ⟨v71, rfl, hm71, hn71⟩
  have hb71 := hb70.trans (hn71.mono hb70.size)
  have hw71 := hw70.trans (hn71.mono hw70.size)
  subst hm71
  clear cc hb70 hw70 hn71
  clear k0_0 k0_1 k1_0 k1_1
  have k0_0 := (F6_p.out.below hb71 F6_p.out.lt).cell0
  have k0_1 := (F6_p.out.below hb71 F6_p.out.lt).cell1
  have k1_0 := (F6_r.out.below hb71 F6_r.out.lt).cell0
  have k1_1 := (F6_r.out.below hb71 F6_r.out.lt).cell1
  obtain ⟨N8, hNB⟩ : ∃ N8, N8 = V71.heap.size := ⟨_, rfl⟩
  obtain ⟨U8, hU⟩ : ∃ U8, U8 = V71.alloc (.cells #[.int .i64 0, .int .i64 0] 28) := ⟨_, rfl⟩
  have HU := Lib.hid (show U8 = _ ∧ N8 = _ from ⟨hU, hNB⟩)
  clear hU hNB
  go_upto_region 5 with fail
  clear k0_0 k0_1 k1_0 k1_1
  rw [← HU.out.2, ← HU.out.1]
  have hbU := hb71.alloc hb71.size (.cells #[.int .i64 0, .int .i64 0] 28)
  have hwU := hw71.alloc hw71.size (.cells #[.int .i64 0, .int .i64 0] 28)
  rw [← HU.out.1] at hbU hwU
  have F8_p := Lib.hid (F6_p.out.below hbU F6_p.out.lt)
  have F8_r := Lib.hid (F6_r.out.below hbU F6_r.out.lt)
  have F8_s := Lib.hid (F6_s.out.below hbU F6_s.out.lt)
  have F8_d := Lib.hid (F6_d.out.below hbU F6_d.out.lt)
  have F8_m := Lib.hid (F6_m.out.below hbU F6_m.out.lt)
  have F8_q := Lib.hid (show Two U8 N8 (.int .i64 0) (.int .i64 0) 28 by rw [HU.out.1, HU.out.2]; exact Two.newAt _ _ _ _ _ rfl)
  have B8_ := Lib.hid hwU
  clear HU hbU hwU hb71 hw71 F6_p F6_r F6_s F6_d F6_m B6_
  have k0_0 := F8_p.out.cell0
  have k0_1 := F8_p.out.cell1
  have k1_0 := F8_r.out.cell0
  have k1_1 := F8_r.out.cell1
  have hb90 := Below.refl U8.heap.size U8
  have hw90 := B8_.out
  have cc := c5 U8 hw90
  go_wp2_with fail
  refine cc.mono ?_
  rintro e V91 ⟨v91, rfl, hm91, hn91⟩
  have hb91 := hb90.trans (hn91.mono hb90.size)
  have hw91 := hw90.trans (hn91.mono hw90.size)
  subst hm91
  clear cc hb90 hw90 hn91
  clear k0_0 k0_1 k1_0 k1_1
  have k0_0 := (F8_p.out.below hb91 F8_p.out.lt).cell0
  have k0_1 := (F8_p.out.below hb91 F8_p.out.lt).cell1
  have k1_0 := (F8_r.out.below hb91 F8_r.out.lt).cell0
  have k1_1 := (F8_r.out.below hb91 F8_r.out.lt).cell1
  go_upto_region 6 with fail
  obtain ⟨N10, hNB⟩ : ∃ N10, N10 = V91.heap.size := ⟨_, rfl⟩
  obtain ⟨U10, hU⟩ : ∃ U10, U10 = V91.alloc (.cells #[.int .i64 0, .int .i64 0] 28) := ⟨_, rfl⟩
  have HU := Lib.hid (show U10 = _ ∧ N10 = _ from ⟨hU, hNB⟩)
  clear hU hNB
  go_upto_region 7 with fail
  clear k0_0 k0_1 k1_0 k1_1
  rw [← HU.out.2, ← HU.out.1]
  have hbU := hb91.alloc hb91.size (.cells #[.int .i64 0, .int .i64 0] 28)
  have hwU := hw91.alloc hw91.size (.cells #[.int .i64 0, .int .i64 0] 28)
  rw [← HU.out.1] at hbU hwU
  have F10_p := Lib.hid (F8_p.out.below hbU F8_p.out.lt)
  have F10_r := Lib.hid (F8_r.out.below hbU F8_r.out.lt)
  have F10_s := Lib.hid (F8_s.out.below hbU F8_s.out.lt)
  have F10_d := Lib.hid (F8_d.out.below hbU F8_d.out.lt)
  have F10_m := Lib.hid (F8_m.out.below hbU F8_m.out.lt)
  have F10_q := Lib.hid (F8_q.out.below hbU F8_q.out.lt)
  have F10_z := Lib.hid (show Two U10 N10 (.int .i64 0) (.int .i64 0) 28 by rw [HU.out.1, HU.out.2]; exact Two.newAt _ _ _ _ _ rfl)
  have B10_ := Lib.hid hwU
  clear HU hbU hwU hb91 hw91 F8_p F8_r F8_s F8_d F8_m F8_q B8_
  have k0_0 := F10_p.out.cell0
  have k0_1 := F10_p.out.cell1
  have k1_0 := F10_r.out.cell0
  have k1_1 := F10_r.out.cell1
  have hb110 := Below.refl U10.heap.size U10
  have hw110 := B10_.out
  have cc := cv1 U10 hw110
  go_wp2_with fail
  refine cc.mono ?_
  rintro e V111 ⟨v111, rfl, hm111, hn111⟩
  have hb111 := hb110.trans (hn111.mono hb110.size)
  have hw111 := hw110.trans (hn111.mono hw110.size)
  subst hm111
  clear cc hb110 hw110 hn111
  clear k0_0 k0_1 k1_0 k1_1
  have k0_0 := (F10_p.out.below hb111 F10_p.out.lt).cell0
  have k0_1 := (F10_p.out.below hb111 F10_p.out.lt).cell1
  have k1_0 := (F10_r.out.below hb111 F10_r.out.lt).cell0
  have k1_1 := (F10_r.out.below hb111 F10_r.out.lt).cell1
  clear k0_0 k0_1 k1_0 k1_1
  have F12_p := Lib.hid (F10_p.out.below hb111 F10_p.out.lt)
  have F12_r := Lib.hid (F10_r.out.below hb111 F10_r.out.lt)
  have F12_s := Lib.hid (F10_s.out.below hb111 F10_s.out.lt)
  have F12_d := Lib.hid (F10_d.out.below hb111 F10_d.out.lt)
  have F12_m := Lib.hid (F10_m.out.below hb111 F10_m.out.lt)
  have F12_q := Lib.hid (F10_q.out.below hb111 F10_q.out.lt)
  have F12_z := Lib.hid (F10_z.out.below hb111 F10_z.out.lt)
  have B12_ := Lib.hid hw111
  clear hb111 hw111 F10_p F10_r F10_s F10_d F10_m F10_q F10_z B10_
  have k0_0 := F12_s.out.cell0
  have k0_1 := F12_s.out.cell1
  have k1_0 := F12_d.out.cell0
  have k1_1 := F12_d.out.cell1
  have k2_0 := F12_m.out.cell0
  have k2_1 := F12_m.out.cell1
  have k3_0 := F12_q.out.cell0
  have k3_1 := F12_q.out.cell1
  have k4_0 := F12_z.out.cell0
  have k4_1 := F12_z.out.cell1
  have hb130 := Below.refl V111.heap.size V111
  have hw130 := B12_.out
  have cc := ci V111 hw130
  go_wp2_with fail
  refine cc.mono ?_
  rintro e V131 ⟨v131, rfl, hm131, hn131⟩
  have hb131 := hb130.trans (hn131.mono hb130.size)
  have hw131 := hw130.trans (hn131.mono hw130.size)
  subst hm131
  clear cc hb130 hw130 hn131
  clear k0_0 k0_1 k1_0 k1_1 k2_0 k2_1 k3_0 k3_1 k4_0 k4_1
  have k0_0 := (F12_s.out.below hb131 F12_s.out.lt).cell0
  have k0_1 := (F12_s.out.below hb131 F12_s.out.lt).cell1
  have k1_0 := (F12_d.out.below hb131 F12_d.out.lt).cell0
  have k1_1 := (F12_d.out.below hb131 F12_d.out.lt).cell1
  have k2_0 := (F12_m.out.below hb131 F12_m.out.lt).cell0
  have k2_1 := (F12_m.out.below hb131 F12_m.out.lt).cell1
  have k3_0 := (F12_q.out.below hb131 F12_q.out.lt).cell0
  have k3_1 := (F12_q.out.below hb131 F12_q.out.lt).cell1
  have k4_0 := (F12_z.out.below hb131 F12_z.out.lt).cell0
  have k4_1 := (F12_z.out.below hb131 F12_z.out.lt).cell1
  have cc := ci V131 hw131
  go_wp2_with fail
  refine cc.mono ?_
  rintro e V132 ⟨v132, rfl, hm132, hn132⟩
  have hb132 := hb131.trans (hn132.mono hb131.size)
  have hw132 := hw131.trans (hn132.mono hw131.size)
  subst hm132
  clear cc hb131 hw131 hn132
  clear k0_0 k0_1 k1_0 k1_1 k2_0 k2_1 k3_0 k3_1 k4_0 k4_1
  have k0_0 := (F12_s.out.below hb132 F12_s.out.lt).cell0
  have k0_1 := (F12_s.out.below hb132 F12_s.out.lt).cell1
  have k1_0 := (F12_d.out.below hb132 F12_d.out.lt).cell0
  have k1_1 := (F12_d.out.below hb132 F12_d.out.lt).cell1
  have k2_0 := (F12_m.out.below hb132 F12_m.out.lt).cell0
  have k2_1 := (F12_m.out.below hb132 F12_m.out.lt).cell1
  have k3_0 := (F12_q.out.below hb132 F12_q.out.lt).cell0
  have k3_1 := (F12_q.out.below hb132 F12_q.out.lt).cell1
  have k4_0 := (F12_z.out.below hb132 F12_z.out.lt).cell0
  have k4_1 := (F12_z.out.below hb132 F12_z.out.lt).cell1
  have cc := ci V132 hw132
  go_wp2_with fail
  refine cc.mono ?_
  rintro e V133 ⟨v133, rfl, hm133, hn133⟩
  have hb133 := hb132.trans (hn133.mono hb132.size)
  have hw133 := hw132.trans (hn133.mono hw132.size)
  subst hm133
  clear cc hb132 hw132 hn133
  clear k0_0 k0_1 k1_0 k1_1 k2_0 k2_1 k3_0 k3_1 k4_0 k4_1
  have k0_0 := (F12_s.out.below hb133 F12_s.out.lt).cell0
  have k0_1 := (F12_s.out.below hb133 F12_s.out.lt).cell1
  have k1_0 := (F12_d.out.below hb133 F12_d.out.lt).cell0
  have k1_1 := (F12_d.out.below hb133 F12_d.out.lt).cell1
  have k2_0 := (F12_m.out.below hb133 F12_m.out.lt).cell0
  have k2_1 := (F12_m.out.below hb133 F12_m.out.lt).cell1
  have k3_0 := (F12_q.out.below hb133 F12_q.out.lt).cell0
  have k3_1 := (F12_q.out.below hb133 F12_q.out.lt).cell1
  have k4_0 := (F12_z.out.below hb133 F12_z.out.lt).cell0
  have k4_1 := (F12_z.out.below hb133 F12_z.out.lt).cell1
  have cc := ci V133 hw133
  go_wp2_with fail
  refine cc.mono ?_
  rintro e V134 ⟨v134, rfl, hm134, hn134⟩
  have hb134 := hb133.trans (hn134.mono hb133.size)
  have hw134 := hw133.trans (hn134.mono hw133.size)
  subst hm134
  clear cc hb133 hw133 hn134
  clear k0_0 k0_1 k1_0 k1_1 k2_0 k2_1 k3_0 k3_1 k4_0 k4_1
  have k0_0 := (F12_s.out.below hb134 F12_s.out.lt).cell0
  have k0_1 := (F12_s.out.below hb134 F12_s.out.lt).cell1
  have k1_0 := (F12_d.out.below hb134 F12_d.out.lt).cell0
  have k1_1 := (F12_d.out.below hb134 F12_d.out.lt).cell1
  have k2_0 := (F12_m.out.below hb134 F12_m.out.lt).cell0
  have k2_1 := (F12_m.out.below hb134 F12_m.out.lt).cell1
  have k3_0 := (F12_q.out.below hb134 F12_q.out.lt).cell0
  have k3_1 := (F12_q.out.below hb134 F12_q.out.lt).cell1
  have k4_0 := (F12_z.out.below hb134 F12_z.out.lt).cell0
  have k4_1 := (F12_z.out.below hb134 F12_z.out.lt).cell1
  have cc := cl V134 hw134
  go_wp2_with fail
  refine cc.mono ?_
  rintro e V135 ⟨v135, rfl, hm135, hn135⟩
  have hb135 := hb134.trans (hn135.mono hb134.size)
  have hw135 := hw134.trans (hn135.mono hw134.size)
  subst hm135
  clear cc hb134 hw134 hn135
  clear k0_0 k0_1 k1_0 k1_1 k2_0 k2_1 k3_0 k3_1 k4_0 k4_1
  have k0_0 := (F12_s.out.below hb135 F12_s.out.lt).cell0
  have k0_1 := (F12_s.out.below hb135 F12_s.out.lt).cell1
  have k1_0 := (F12_d.out.below hb135 F12_d.out.lt).cell0
  have k1_1 := (F12_d.out.below hb135 F12_d.out.lt).cell1
  have k2_0 := (F12_m.out.below hb135 F12_m.out.lt).cell0
  have k2_1 := (F12_m.out.below hb135 F12_m.out.lt).cell1
  have k3_0 := (F12_q.out.below hb135 F12_q.out.lt).cell0
  have k3_1 := (F12_q.out.below hb135 F12_q.out.lt).cell1
  have k4_0 := (F12_z.out.below hb135 F12_z.out.lt).cell0
  have k4_1 := (F12_z.out.below hb135 F12_z.out.lt).cell1
  have HE := Lib.hid hw135
  clear hb135 hw135
  go_wp2
  go_ret
  exact ⟨rfl, HE.out⟩

set_option maxRecDepth 100000 in
set_option maxHeartbeats 3200000 in
theorem adds_bad1 (p q r s : Int) (w : World) (hp : I64 p) (hq : I64 q) (hr : I64 r) (hs : I64 s) (h1 : FOk (p, q)) (h : ¬ FOk (r, s)) :
    Calls Tryz.prog 7 #[.agg #[.int .i64 p, .int .i64 q], .agg #[.int .i64 r, .int .i64 s]] w (RetV (.bool true) w) := by
  have c1 : ∀ W (_ : Below w.heap.size w W), Calls Tryz.prog 36 #[.agg #[.int .i64 p, .int .i64 q], .agg #[.int .i64 r, .int .i64 s]] W (RetW (.tuple #[.agg #[.int .i64 0, .int .i64 0], .int .i64 2]) W) := fun W _ => by
    exact (gadd_bad p q r s W hp hq hr hs (fun g => h g.2)).mono fun e w' h => RetW.of h
  have c2 : ∀ W (_ : Below w.heap.size w W), Calls Tryz.prog 34 #[.agg #[.int .i64 p, .int .i64 q], .agg #[.int .i64 r, .int .i64 s]] W (RetW (.tuple #[.agg #[.int .i64 0, .int .i64 0], .int .i64 2]) W) := fun W _ => by
    exact (gsub_bad p q r s W hp hq hr hs (fun g => h g.2)).mono fun e w' h => RetW.of h
  have c3 : ∀ W (_ : Below w.heap.size w W), Calls Tryz.prog 37 #[.agg #[.int .i64 p, .int .i64 q], .agg #[.int .i64 r, .int .i64 s]] W (RetW (.tuple #[.agg #[.int .i64 0, .int .i64 0], .int .i64 2]) W) := fun W _ => by
    exact (gmul_bad p q r s W hp hq hr hs (fun g => h g.2)).mono fun e w' h => RetW.of h
  have c4 : ∀ W (_ : Below w.heap.size w W), Calls Tryz.prog 35 #[.agg #[.int .i64 p, .int .i64 q], .agg #[.int .i64 r, .int .i64 s]] W (RetW (.tuple #[.agg #[.int .i64 0, .int .i64 0], .int .i64 2]) W) := fun W _ => by
    exact (gdiv_bad p q r s W hp hq hr hs (fun g => h g.2)).mono fun e w' h => RetW.of h
  have c5 : ∀ W (_ : Below w.heap.size w W), Calls Tryz.prog 38 #[.agg #[.int .i64 p, .int .i64 q], .agg #[.int .i64 r, .int .i64 s]] W (RetW (.tuple #[.int .i64 0, .int .i64 2]) W) := fun W _ => by
    exact (gcmp_bad p q r s W hp hq hr hs (fun g => h g.2)).mono fun e w' h => RetW.of h
  have cv1 := valid_y p q true (decide_eq_true h1) (w := w)
  have cv2 := valid_y r s false (decide_eq_false h) (w := w)
  clear h1
  have ci := is_w 0 0 2 (w := w)
  have cl := lives_y (w := w)
  clear h hp hq hr hs
  obtain ⟨W3, hW3⟩ : ∃ W3, W3 = ((w.alloc (.cells #[.int .i64 p, .int .i64 q] 28)).alloc (.cells #[.int .i64 r, .int .i64 s] 28)) := ⟨_, rfl⟩
  have hB : Below w.heap.size w W3 := by rw [hW3]; exact (((Below.refl _ _).alloc (Nat.le_refl _) _).alloc (by simp; try omega) _)
  have HBW := Lib.hid hB
  have HF := Lib.hid (show Two W3 (w.heap.size) (.int .i64 p) (.int .i64 q) 28 by rw [hW3]; exact (((Two.newAt _ _ _ _ _ (by simp))).alloc _))
  have HG := Lib.hid (show Two W3 (w.heap.size + 1) (.int .i64 r) (.int .i64 s) 28 by rw [hW3]; exact (Two.newAt _ _ _ _ _ (by simp)))
  clear hB
  go_enter Tryz.func7, Tryz.ntmps7
  go_upto_region 1 with fail
  rw [← hW3]
  clear hW3
  have k0_0 := HF.out.cell0
  have k0_1 := HF.out.cell1
  have k1_0 := HG.out.cell0
  have k1_1 := HG.out.cell1
  have hb10 := Below.refl W3.heap.size W3
  have hw10 := HBW.out
  have cc := c1 W3 hw10
  go_wp2_with fail
  refine cc.mono ?_
  rintro e V11 ⟨v11, rfl, hm11, hn11⟩
  have hb11 := hb10.trans (hn11.mono hb10.size)
  have hw11 := hw10.trans (hn11.mono hw10.size)
  subst hm11
  clear cc hb10 hw10 hn11
  clear k0_0 k0_1 k1_0 k1_1
  have k0_0 := (HF.out.below hb11 HF.out.lt).cell0
  have k0_1 := (HF.out.below hb11 HF.out.lt).cell1
  have k1_0 := (HG.out.below hb11 HG.out.lt).cell0
  have k1_1 := (HG.out.below hb11 HG.out.lt).cell1
  obtain ⟨N2, hNB⟩ : ∃ N2, N2 = V11.heap.size := ⟨_, rfl⟩
  obtain ⟨U2, hU⟩ : ∃ U2, U2 = V11.alloc (.cells #[.int .i64 0, .int .i64 0] 28) := ⟨_, rfl⟩
  have HU := Lib.hid (show U2 = _ ∧ N2 = _ from ⟨hU, hNB⟩)
  clear hU hNB
  go_upto_region 2 with fail
  clear k0_0 k0_1 k1_0 k1_1
  rw [← HU.out.2, ← HU.out.1]
  have hbU := hb11.alloc hb11.size (.cells #[.int .i64 0, .int .i64 0] 28)
  have hwU := hw11.alloc hw11.size (.cells #[.int .i64 0, .int .i64 0] 28)
  rw [← HU.out.1] at hbU hwU
  have F2_p := Lib.hid (HF.out.below hbU HF.out.lt)
  have F2_r := Lib.hid (HG.out.below hbU HG.out.lt)
  have F2_s := Lib.hid (show Two U2 N2 (.int .i64 0) (.int .i64 0) 28 by rw [HU.out.1, HU.out.2]; exact Two.newAt _ _ _ _ _ rfl)
  have B2_ := Lib.hid hwU
  clear HU hbU hwU hb11 hw11 HF HG HBW
  have k0_0 := F2_p.out.cell0
  have k0_1 := F2_p.out.cell1
  have k1_0 := F2_r.out.cell0
  have k1_1 := F2_r.out.cell1
  have hb30 := Below.refl U2.heap.size U2
  have hw30 := B2_.out
  have cc := c2 U2 hw30
  go_wp2_with fail
  refine cc.mono ?_
  rintro e V31 ⟨v31, rfl, hm31, hn31⟩
  have hb31 := hb30.trans (hn31.mono hb30.size)
  have hw31 := hw30.trans (hn31.mono hw30.size)
  subst hm31
  clear cc hb30 hw30 hn31
  clear k0_0 k0_1 k1_0 k1_1
  have k0_0 := (F2_p.out.below hb31 F2_p.out.lt).cell0
  have k0_1 := (F2_p.out.below hb31 F2_p.out.lt).cell1
  have k1_0 := (F2_r.out.below hb31 F2_r.out.lt).cell0
  have k1_1 := (F2_r.out.below hb31 F2_r.out.lt).cell1
  obtain ⟨N4, hNB⟩ : ∃ N4, N4 = V31.heap.size := ⟨_, rfl⟩
  obtain ⟨U4, hU⟩ : ∃ U4, U4 = V31.alloc (.cells #[.int .i64 0, .int .i64 0] 28) := ⟨_, rfl⟩
  have HU := Lib.hid (show U4 = _ ∧ N4 = _ from ⟨hU, hNB⟩)
  clear hU hNB
  go_upto_region 3 with fail
  clear k0_0 k0_1 k1_0 k1_1
  rw [← HU.out.2, ← HU.out.1]
  have hbU := hb31.alloc hb31.size (.cells #[.int .i64 0, .int .i64 0] 28)
  have hwU := hw31.alloc hw31.size (.cells #[.int .i64 0, .int .i64 0] 28)
  rw [← HU.out.1] at hbU hwU
  have F4_p := Lib.hid (F2_p.out.below hbU F2_p.out.lt)
  have F4_r := Lib.hid (F2_r.out.below hbU F2_r.out.lt)
  have F4_s := Lib.hid (F2_s.out.below hbU F2_s.out.lt)
  have F4_d := Lib.hid (show Two U4 N4 (.int .i64 0) (.int .i64 0) 28 by rw [HU.out.1, HU.out.2]; exact Two.newAt _ _ _ _ _ rfl)
  have B4_ := Lib.hid hwU
  clear HU hbU hwU hb31 hw31 F2_p F2_r F2_s B2_
  have k0_0 := F4_p.out.cell0
  have k0_1 := F4_p.out.cell1
  have k1_0 := F4_r.out.cell0
  have k1_1 := F4_r.out.cell1
  have hb50 := Below.refl U4.heap.size U4
  have hw50 := B4_.out
  have cc := c3 U4 hw50
  go_wp2_with fail
  refine cc.mono ?_
  rintro e V51 ⟨v51, rfl, hm51, hn51⟩
  have hb51 := hb50.trans (hn51.mono hb50.size)
  have hw51 := hw50.trans (hn51.mono hw50.size)
  subst hm51
  clear cc hb50 hw50 hn51
  clear k0_0 k0_1 k1_0 k1_1
  have k0_0 := (F4_p.out.below hb51 F4_p.out.lt).cell0
  have k0_1 := (F4_p.out.below hb51 F4_p.out.lt).cell1
  have k1_0 := (F4_r.out.below hb51 F4_r.out.lt).cell0
  have k1_1 := (F4_r.out.below hb51 F4_r.out.lt).cell1
  obtain ⟨N6, hNB⟩ : ∃ N6, N6 = V51.heap.size := ⟨_, rfl⟩
  obtain ⟨U6, hU⟩ : ∃ U6, U6 = V51.alloc (.cells #[.int .i64 0, .int .i64 0] 28) := ⟨_, rfl⟩
  have HU := Lib.hid (show U6 = _ ∧ N6 = _ from ⟨hU, hNB⟩)
  clear hU hNB
  go_upto_region 4 with fail
  clear k0_0 k0_1 k1_0 k1_1
  rw [← HU.out.2, ← HU.out.1]
  have hbU := hb51.alloc hb51.size (.cells #[.int .i64 0, .int .i64 0] 28)
  have hwU := hw51.alloc hw51.size (.cells #[.int .i64 0, .int .i64 0] 28)
  rw [← HU.out.1] at hbU hwU
  have F6_p := Lib.hid (F4_p.out.below hbU F4_p.out.lt)
  have F6_r := Lib.hid (F4_r.out.below hbU F4_r.out.lt)
  have F6_s := Lib.hid (F4_s.out.below hbU F4_s.out.lt)
  have F6_d := Lib.hid (F4_d.out.below hbU F4_d.out.lt)
  have F6_m := Lib.hid (show Two U6 N6 (.int .i64 0) (.int .i64 0) 28 by rw [HU.out.1, HU.out.2]; exact Two.newAt _ _ _ _ _ rfl)
  have B6_ := Lib.hid hwU
  clear HU hbU hwU hb51 hw51 F4_p F4_r F4_s F4_d B4_
  have k0_0 := F6_p.out.cell0
  have k0_1 := F6_p.out.cell1
  have k1_0 := F6_r.out.cell0
  have k1_1 := F6_r.out.cell1
  have hb70 := Below.refl U6.heap.size U6
  have hw70 := B6_.out
  have cc := c4 U6 hw70
  go_wp2_with fail
  refine cc.mono ?_
  rintro e V71 ⟨v71, rfl, hm71, hn71⟩
  have hb71 := hb70.trans (hn71.mono hb70.size)
  have hw71 := hw70.trans (hn71.mono hw70.size)
  subst hm71
  clear cc hb70 hw70 hn71
  clear k0_0 k0_1 k1_0 k1_1
  have k0_0 := (F6_p.out.below hb71 F6_p.out.lt).cell0
  have k0_1 := (F6_p.out.below hb71 F6_p.out.lt).cell1
  have k1_0 := (F6_r.out.below hb71 F6_r.out.lt).cell0
  have k1_1 := (F6_r.out.below hb71 F6_r.out.lt).cell1
  obtain ⟨N8, hNB⟩ : ∃ N8, N8 = V71.heap.size := ⟨_, rfl⟩
  obtain ⟨U8, hU⟩ : ∃ U8, U8 = V71.alloc (.cells #[.int .i64 0, .int .i64 0] 28) := ⟨_, rfl⟩
  have HU := Lib.hid (show U8 = _ ∧ N8 = _ from ⟨hU, hNB⟩)
  clear hU hNB
  go_upto_region 5 with fail
  clear k0_0 k0_1 k1_0 k1_1
  rw [← HU.out.2, ← HU.out.1]
  have hbU := hb71.alloc hb71.size (.cells #[.int .i64 0, .int .i64 0] 28)
  have hwU := hw71.alloc hw71.size (.cells #[.int .i64 0, .int .i64 0] 28)
  rw [← HU.out.1] at hbU hwU
  have F8_p := Lib.hid (F6_p.out.below hbU F6_p.out.lt)
  have F8_r := Lib.hid (F6_r.out.below hbU F6_r.out.lt)
  have F8_s := Lib.hid (F6_s.out.below hbU F6_s.out.lt)
  have F8_d := Lib.hid (F6_d.out.below hbU F6_d.out.lt)
  have F8_m := Lib.hid (F6_m.out.below hbU F6_m.out.lt)
  have F8_q := Lib.hid (show Two U8 N8 (.int .i64 0) (.int .i64 0) 28 by rw [HU.out.1, HU.out.2]; exact Two.newAt _ _ _ _ _ rfl)
  have B8_ := Lib.hid hwU
  clear HU hbU hwU hb71 hw71 F6_p F6_r F6_s F6_d F6_m B6_
  have k0_0 := F8_p.out.cell0
  have k0_1 := F8_p.out.cell1
  have k1_0 := F8_r.out.cell0
  have k1_1 := F8_r.out.cell1
  have hb90 := Below.refl U8.heap.size U8
  have hw90 := B8_.out
  have cc := c5 U8 hw90
  go_wp2_with fail
  refine cc.mono ?_
  rintro e V91 ⟨v91, rfl, hm91, hn91⟩
  have hb91 := hb90.trans (hn91.mono hb90.size)
  have hw91 := hw90.trans (hn91.mono hw90.size)
  subst hm91
  clear cc hb90 hw90 hn91
  clear k0_0 k0_1 k1_0 k1_1
  have k0_0 := (F8_p.out.below hb91 F8_p.out.lt).cell0
  have k0_1 := (F8_p.out.below hb91 F8_p.out.lt).cell1
  have k1_0 := (F8_r.out.below hb91 F8_r.out.lt).cell0
  have k1_1 := (F8_r.out.below hb91 F8_r.out.lt).cell1
  go_upto_region 6 with fail
  obtain ⟨N10, hNB⟩ : ∃ N10, N10 = V91.heap.size := ⟨_, rfl⟩
  obtain ⟨U10, hU⟩ : ∃ U10, U10 = V91.alloc (.cells #[.int .i64 0, .int .i64 0] 28) := ⟨_, rfl⟩
  have HU := Lib.hid (show U10 = _ ∧ N10 = _ from ⟨hU, hNB⟩)
  clear hU hNB
  go_upto_region 7 with fail
  clear k0_0 k0_1 k1_0 k1_1
  rw [← HU.out.2, ← HU.out.1]
  have hbU := hb91.alloc hb91.size (.cells #[.int .i64 0, .int .i64 0] 28)
  have hwU := hw91.alloc hw91.size (.cells #[.int .i64 0, .int .i64 0] 28)
  rw [← HU.out.1] at hbU hwU
  have F10_p := Lib.hid (F8_p.out.below hbU F8_p.out.lt)
  have F10_r := Lib.hid (F8_r.out.below hbU F8_r.out.lt)
  have F10_s := Lib.hid (F8_s.out.below hbU F8_s.out.lt)
  have F10_d := Lib.hid (F8_d.out.below hbU F8_d.out.lt)
  have F10_m := Lib.hid (F8_m.out.below hbU F8_m.out.lt)
  have F10_q := Lib.hid (F8_q.out.below hbU F8_q.out.lt)
  have F10_z := Lib.hid (show Two U10 N10 (.int .i64 0) (.int .i64 0) 28 by rw [HU.out.1, HU.out.2]; exact Two.newAt _ _ _ _ _ rfl)
  have B10_ := Lib.hid hwU
  clear HU hbU hwU hb91 hw91 F8_p F8_r F8_s F8_d F8_m F8_q B8_
  have k0_0 := F10_p.out.cell0
  have k0_1 := F10_p.out.cell1
  have k1_0 := F10_r.out.cell0
  have k1_1 := F10_r.out.cell1
  have hb110 := Below.refl U10.heap.size U10
  have hw110 := B10_.out
  have cc := cv1 U10 hw110
  go_wp2_with fail
  refine cc.mono ?_
  rintro e V111 ⟨v111, rfl, hm111, hn111⟩
  have hb111 := hb110.trans (hn111.mono hb110.size)
  have hw111 := hw110.trans (hn111.mono hw110.size)
  subst hm111
  clear cc hb110 hw110 hn111
  clear k0_0 k0_1 k1_0 k1_1
  have k0_0 := (F10_p.out.below hb111 F10_p.out.lt).cell0
  have k0_1 := (F10_p.out.below hb111 F10_p.out.lt).cell1
  have k1_0 := (F10_r.out.below hb111 F10_r.out.lt).cell0
  have k1_1 := (F10_r.out.below hb111 F10_r.out.lt).cell1
  have cc := cv2 V111 hw111
  go_wp2_with fail
  refine cc.mono ?_
  rintro e V112 ⟨v112, rfl, hm112, hn112⟩
  have hb112 := hb111.trans (hn112.mono hb111.size)
  have hw112 := hw111.trans (hn112.mono hw111.size)
  subst hm112
  clear cc hb111 hw111 hn112
  clear k0_0 k0_1 k1_0 k1_1
  have k0_0 := (F10_p.out.below hb112 F10_p.out.lt).cell0
  have k0_1 := (F10_p.out.below hb112 F10_p.out.lt).cell1
  have k1_0 := (F10_r.out.below hb112 F10_r.out.lt).cell0
  have k1_1 := (F10_r.out.below hb112 F10_r.out.lt).cell1
  clear k0_0 k0_1 k1_0 k1_1
  have F12_p := Lib.hid (F10_p.out.below hb112 F10_p.out.lt)
  have F12_r := Lib.hid (F10_r.out.below hb112 F10_r.out.lt)
  have F12_s := Lib.hid (F10_s.out.below hb112 F10_s.out.lt)
  have F12_d := Lib.hid (F10_d.out.below hb112 F10_d.out.lt)
  have F12_m := Lib.hid (F10_m.out.below hb112 F10_m.out.lt)
  have F12_q := Lib.hid (F10_q.out.below hb112 F10_q.out.lt)
  have F12_z := Lib.hid (F10_z.out.below hb112 F10_z.out.lt)
  have B12_ := Lib.hid hw112
  clear hb112 hw112 F10_p F10_r F10_s F10_d F10_m F10_q F10_z B10_
  have k0_0 := F12_s.out.cell0
  have k0_1 := F12_s.out.cell1
  have k1_0 := F12_d.out.cell0
  have k1_1 := F12_d.out.cell1
  have k2_0 := F12_m.out.cell0
  have k2_1 := F12_m.out.cell1
  have k3_0 := F12_q.out.cell0
  have k3_1 := F12_q.out.cell1
  have k4_0 := F12_z.out.cell0
  have k4_1 := F12_z.out.cell1
  have hb130 := Below.refl V112.heap.size V112
  have hw130 := B12_.out
  have cc := ci V112 hw130
  go_wp2_with fail
  refine cc.mono ?_
  rintro e V131 ⟨v131, rfl, hm131, hn131⟩
  have hb131 := hb130.trans (hn131.mono hb130.size)
  have hw131 := hw130.trans (hn131.mono hw130.size)
  subst hm131
  clear cc hb130 hw130 hn131
  clear k0_0 k0_1 k1_0 k1_1 k2_0 k2_1 k3_0 k3_1 k4_0 k4_1
  have k0_0 := (F12_s.out.below hb131 F12_s.out.lt).cell0
  have k0_1 := (F12_s.out.below hb131 F12_s.out.lt).cell1
  have k1_0 := (F12_d.out.below hb131 F12_d.out.lt).cell0
  have k1_1 := (F12_d.out.below hb131 F12_d.out.lt).cell1
  have k2_0 := (F12_m.out.below hb131 F12_m.out.lt).cell0
  have k2_1 := (F12_m.out.below hb131 F12_m.out.lt).cell1
  have k3_0 := (F12_q.out.below hb131 F12_q.out.lt).cell0
  have k3_1 := (F12_q.out.below hb131 F12_q.out.lt).cell1
  have k4_0 := (F12_z.out.below hb131 F12_z.out.lt).cell0
  have k4_1 := (F12_z.out.below hb131 F12_z.out.lt).cell1
  have cc := ci V131 hw131
  go_wp2_with fail
  refine cc.mono ?_
  rintro e V132 ⟨v132, rfl, hm132, hn132⟩
  have hb132 := hb131.trans (hn132.mono hb131.size)
  have hw132 := hw131.trans (hn132.mono hw131.size)
  subst hm132
  clear cc hb131 hw131 hn132
  clear k0_0 k0_1 k1_0 k1_1 k2_0 k2_1 k3_0 k3_1 k4_0 k4_1
  have k0_0 := (F12_s.out.below hb132 F12_s.out.lt).cell0
  have k0_1 := (F12_s.out.below hb132 F12_s.out.lt).cell1
  have k1_0 := (F12_d.out.below hb132 F12_d.out.lt).cell0
  have k1_1 := (F12_d.out.below hb132 F12_d.out.lt).cell1
  have k2_0 := (F12_m.out.below hb132 F12_m.out.lt).cell0
  have k2_1 := (F12_m.out.below hb132 F12_m.out.lt).cell1
  have k3_0 := (F12_q.out.below hb132 F12_q.out.lt).cell0
  have k3_1 := (F12_q.out.below hb132 F12_q.out.lt).cell1
  have k4_0 := (F12_z.out.below hb132 F12_z.out.lt).cell0
  have k4_1 := (F12_z.out.below hb132 F12_z.out.lt).cell1
  have cc := ci V132 hw132
  go_wp2_with fail
  refine cc.mono ?_
  rintro e V133 ⟨v133, rfl, hm133, hn133⟩
  have hb133 := hb132.trans (hn133.mono hb132.size)
  have hw133 := hw132.trans (hn133.mono hw132.size)
  subst hm133
  clear cc hb132 hw132 hn133
  clear k0_0 k0_1 k1_0 k1_1 k2_0 k2_1 k3_0 k3_1 k4_0 k4_1
  have k0_0 := (F12_s.out.below hb133 F12_s.out.lt).cell0
  have k0_1 := (F12_s.out.below hb133 F12_s.out.lt).cell1
  have k1_0 := (F12_d.out.below hb133 F12_d.out.lt).cell0
  have k1_1 := (F12_d.out.below hb133 F12_d.out.lt).cell1
  have k2_0 := (F12_m.out.below hb133 F12_m.out.lt).cell0
  have k2_1 := (F12_m.out.below hb133 F12_m.out.lt).cell1
  have k3_0 := (F12_q.out.below hb133 F12_q.out.lt).cell0
  have k3_1 := (F12_q.out.below hb133 F12_q.out.lt).cell1
  have k4_0 := (F12_z.out.below hb133 F12_z.out.lt).cell0
  have k4_1 := (F12_z.out.below hb133 F12_z.out.lt).cell1
  have cc := ci V133 hw133
  go_wp2_with fail
  refine cc.mono ?_
  rintro e V134 ⟨v134, rfl, hm134, hn134⟩
  have hb134 := hb133.trans (hn134.mono hb133.size)
  have hw134 := hw133.trans (hn134.mono hw133.size)
  subst hm134
  clear cc hb133 hw133 hn134
  clear k0_0 k0_1 k1_0 k1_1 k2_0 k2_1 k3_0 k3_1 k4_0 k4_1
  have k0_0 := (F12_s.out.below hb134 F12_s.out.lt).cell0
  have k0_1 := (F12_s.out.below hb134 F12_s.out.lt).cell1
  have k1_0 := (F12_d.out.below hb134 F12_d.out.lt).cell0
  have k1_1 := (F12_d.out.below hb134 F12_d.out.lt).cell1
  have k2_0 := (F12_m.out.below hb134 F12_m.out.lt).cell0
  have k2_1 := (F12_m.out.below hb134 F12_m.out.lt).cell1
  have k3_0 := (F12_q.out.below hb134 F12_q.out.lt).cell0
  have k3_1 := (F12_q.out.below hb134 F12_q.out.lt).cell1
  have k4_0 := (F12_z.out.below hb134 F12_z.out.lt).cell0
  have k4_1 := (F12_z.out.below hb134 F12_z.out.lt).cell1
  have cc := cl V134 hw134
  go_wp2_with fail
  refine cc.mono ?_
  rintro e V135 ⟨v135, rfl, hm135, hn135⟩
  have hb135 := hb134.trans (hn135.mono hb134.size)
  have hw135 := hw134.trans (hn135.mono hw134.size)
  subst hm135
  clear cc hb134 hw134 hn135
  clear k0_0 k0_1 k1_0 k1_1 k2_0 k2_1 k3_0 k3_1 k4_0 k4_1
  have k0_0 := (F12_s.out.below hb135 F12_s.out.lt).cell0
  have k0_1 := (F12_s.out.below hb135 F12_s.out.lt).cell1
  have k1_0 := (F12_d.out.below hb135 F12_d.out.lt).cell0
  have k1_1 := (F12_d.out.below hb135 F12_d.out.lt).cell1
  have k2_0 := (F12_m.out.below hb135 F12_m.out.lt).cell0
  have k2_1 := (F12_m.out.below hb135 F12_m.out.lt).cell1
  have k3_0 := (F12_q.out.below hb135 F12_q.out.lt).cell0
  have k3_1 := (F12_q.out.below hb135 F12_q.out.lt).cell1
  have k4_0 := (F12_z.out.below hb135 F12_z.out.lt).cell0
  have k4_1 := (F12_z.out.below hb135 F12_z.out.lt).cell1
  have HE := Lib.hid hw135
  clear hb135 hw135
  go_wp2
  go_ret
  exact ⟨rfl, HE.out⟩

set_option maxRecDepth 100000 in
set_option maxHeartbeats 12800000 in
theorem adds_good0 (p q r s : Int) (w : World) (h1 : FOk (p, q)) (h2 : FOk (r, s)) (h0 : r = 0) :
    Calls Tryz.prog 7 #[.agg #[.int .i64 p, .int .i64 q], .agg #[.int .i64 r, .int .i64 s]] w (RetV (.bool true) w) := by
  obtain ⟨sn, sd, se, hv1⟩ := lowV_form (p * s + r * q) (q * s)
  obtain ⟨dn, dd, de, hv2⟩ := lowV_form (p * s - r * q) (q * s)
  obtain ⟨mn, md, me, hv3⟩ := lowV_form (p * r) (q * s)
  obtain ⟨sg, hsg⟩ : ∃ sg, sg = sgn (p * s - r * q) := ⟨_, rfl⟩
  have q0 : 0 < q := by have := h1.1; simp at this; omega
  have s0 : 0 < s := by have := h2.1; simp at this; omega
  have qs0 : 0 < q * s := Int.mul_pos q0 s0
  have i1 := i64_lowf h1
  have i2 := i64_lowf h2
  have c1 : ∀ W (_ : Below w.heap.size w W), Calls Tryz.prog 36 #[.agg #[.int .i64 p, .int .i64 q], .agg #[.int .i64 r, .int .i64 s]] W (RetW (.tuple #[.agg #[.int .i64 sn, .int .i64 sd], .int .i64 se]) W) := fun W _ => by
    rw [← hv1]
    exact (gadd_ok p q r s W i1.1 i1.2 i2.1 i2.2 h1 h2).mono fun e w' h => RetW.of h
  have c2 : ∀ W (_ : Below w.heap.size w W), Calls Tryz.prog 34 #[.agg #[.int .i64 p, .int .i64 q], .agg #[.int .i64 r, .int .i64 s]] W (RetW (.tuple #[.agg #[.int .i64 dn, .int .i64 dd], .int .i64 de]) W) := fun W _ => by
    rw [← hv2]
    exact (gsub_ok p q r s W h1 h2).mono fun e w' h => RetW.of h
  have c3 : ∀ W (_ : Below w.heap.size w W), Calls Tryz.prog 37 #[.agg #[.int .i64 p, .int .i64 q], .agg #[.int .i64 r, .int .i64 s]] W (RetW (.tuple #[.agg #[.int .i64 mn, .int .i64 md], .int .i64 me]) W) := fun W _ => by
    rw [← hv3]
    exact (gmul_ok p q r s W i1.1 i1.2 i2.1 i2.2 h1 h2).mono fun e w' h => RetW.of h
  have c4 : ∀ W (_ : Below w.heap.size w W), Calls Tryz.prog 35 #[.agg #[.int .i64 p, .int .i64 q], .agg #[.int .i64 r, .int .i64 s]] W (RetW (.tuple #[.agg #[.int .i64 0, .int .i64 0], .int .i64 4]) W) := fun W _ => by
    exact (gdiv_zero p q r s W h1 h2 h0).mono fun e w' h => RetW.of h
  have c5 : ∀ W (_ : Below w.heap.size w W), Calls Tryz.prog 38 #[.agg #[.int .i64 p, .int .i64 q], .agg #[.int .i64 r, .int .i64 s]] W (RetW (.tuple #[.int .i64 sg, .int .i64 0]) W) := fun W _ => by
    rw [← (show sgn (p * s - r * q) = sg from hsg.symm)]
    exact (gcmp_ok p q r s W i1.1 i1.2 i2.1 i2.2 h1 h2).mono fun e w' h => RetW.of h
  have cv1 := valid_y p q true (decide_eq_true h1) (w := w)
  have cv2 := valid_y r s true (decide_eq_true h2) (w := w)
  have co1 : ∀ W (_ : Below w.heap.size w W), Calls Tryz.prog 22 #[.agg #[.int .i64 p, .int .i64 q]] W (RetRQ p q 5 W) := fun W _ => of_any' p q W i1.1 i1.2
  have co2 : ∀ W (_ : Below w.heap.size w W), Calls Tryz.prog 22 #[.agg #[.int .i64 r, .int .i64 s]] W (RetRQ r s 5 W) := fun W _ => of_any' r s W i2.1 i2.2
  have cqa : ∀ W (_ : Below w.heap.size w W) u v, IsRQ W u p q 5 → IsRQ W v r s 5 → Calls Tryz.prog 39 #[u, v] W (RetRQ (p * s + r * q) (q * s) 12 W) := fun W _ u v g1 g2 => raddq_any g1 g2 (by omega) (by omega)
  have cfa : ∀ W (_ : Below w.heap.size w W) u, IsRQ W u (p * s + r * q) (q * s) 12 → Calls Tryz.prog 16 #[u] W (RetW (.tuple #[.agg #[.int .i64 sn, .int .i64 sd], .int .i64 se]) W) := fun W _ u g => by
    have := rfrac_any g (by omega) qs0
    rw [hv1] at this
    exact this.mono fun e w' h => RetW.of h
  have cqs : ∀ W (_ : Below w.heap.size w W) u v, IsRQ W u p q 5 → IsRQ W v r s 5 → Calls Tryz.prog 40 #[u, v] W (RetRQ (p * s - r * q) (q * s) 12 W) := fun W _ u v g1 g2 => rsubq_any g1 g2 (by omega) (by omega)
  have cfs : ∀ W (_ : Below w.heap.size w W) u, IsRQ W u (p * s - r * q) (q * s) 12 → Calls Tryz.prog 16 #[u] W (RetW (.tuple #[.agg #[.int .i64 dn, .int .i64 dd], .int .i64 de]) W) := fun W _ u g => by
    have := rfrac_any g (by omega) qs0
    rw [hv2] at this
    exact this.mono fun e w' h => RetW.of h
  have cqm : ∀ W (_ : Below w.heap.size w W) u v, IsRQ W u p q 5 → IsRQ W v r s 5 → Calls Tryz.prog 41 #[u, v] W (RetRQ (p * r) (q * s) 11 W) := fun W _ u v g1 g2 => rmulq_any g1 g2 (by omega) (by omega)
  have cfm : ∀ W (_ : Below w.heap.size w W) u, IsRQ W u (p * r) (q * s) 11 → Calls Tryz.prog 16 #[u] W (RetW (.tuple #[.agg #[.int .i64 mn, .int .i64 md], .int .i64 me]) W) := fun W _ u g => by
    have := rfrac_any g (by omega) qs0
    rw [hv3] at this
    exact this.mono fun e w' h => RetW.of h
  have ccm : ∀ W (_ : Below w.heap.size w W) u v, IsRQ W u p q 5 → IsRQ W v r s 5 → Calls Tryz.prog 21 #[u, v] W (RetW (.int .i64 sg) W) := fun W _ u v g1 g2 => by
    rw [hsg]
    exact (rcmpq_any g1 g2 (by omega) (by omega)).mono fun e w' h => RetW.of h
  have ci1 := is_w sn sd se (w := w)
  have ci2 := is_w dn dd de (w := w)
  have ci3 := is_w mn md me (w := w)
  have ci4 := is_w 0 0 4 (w := w)
  have cl := lives_y (w := w)
  subst h0
  clear h1 h2 hv1 hv2 hv3 q0 s0 qs0 i1 i2 hsg
  obtain ⟨W3, hW3⟩ : ∃ W3, W3 = ((w.alloc (.cells #[.int .i64 p, .int .i64 q] 28)).alloc (.cells #[.int .i64 0, .int .i64 s] 28)) := ⟨_, rfl⟩
  have hB : Below w.heap.size w W3 := by rw [hW3]; exact (((Below.refl _ _).alloc (Nat.le_refl _) _).alloc (by simp; try omega) _)
  have HBW := Lib.hid hB
  have HF := Lib.hid (show Two W3 (w.heap.size) (.int .i64 p) (.int .i64 q) 28 by rw [hW3]; exact (((Two.newAt _ _ _ _ _ (by simp))).alloc _))
  have HG := Lib.hid (show Two W3 (w.heap.size + 1) (.int .i64 0) (.int .i64 s) 28 by rw [hW3]; exact (Two.newAt _ _ _ _ _ (by simp)))
  clear hB
  go_enter Tryz.func7, Tryz.ntmps7
  go_upto_region 1 with fail
  rw [← hW3]
  clear hW3
  have k0_0 := HF.out.cell0
  have k0_1 := HF.out.cell1
  have k1_0 := HG.out.cell0
  have k1_1 := HG.out.cell1
  have hb10 := Below.refl W3.heap.size W3
  have hw10 := HBW.out
  have cc := c1 W3 hw10
  go_wp2_with fail
  refine cc.mono ?_
  rintro e V11 ⟨v11, rfl, hm11, hn11⟩
  have hb11 := hb10.trans (hn11.mono hb10.size)
  have hw11 := hw10.trans (hn11.mono hw10.size)
  subst hm11
  clear cc hb10 hw10 hn11
  clear k0_0 k0_1 k1_0 k1_1
  have k0_0 := (HF.out.below hb11 HF.out.lt).cell0
  have k0_1 := (HF.out.below hb11 HF.out.lt).cell1
  have k1_0 := (HG.out.below hb11 HG.out.lt).cell0
  have k1_1 := (HG.out.below hb11 HG.out.lt).cell1
  obtain ⟨N2, hNB⟩ : ∃ N2, N2 = V11.heap.size := ⟨_, rfl⟩
  obtain ⟨U2, hU⟩ : ∃ U2, U2 = V11.alloc (.cells #[.int .i64 sn, .int .i64 sd] 28) := ⟨_, rfl⟩
  have HU := Lib.hid (show U2 = _ ∧ N2 = _ from ⟨hU, hNB⟩)
  clear hU hNB
  go_upto_region 2 with fail
  clear k0_0 k0_1 k1_0 k1_1
  rw [← HU.out.2, ← HU.out.1]
  have hbU := hb11.alloc hb11.size (.cells #[.int .i64 sn, .int .i64 sd] 28)
  have hwU := hw11.alloc hw11.size (.cells #[.int .i64 sn, .int .i64 sd] 28)
  rw [← HU.out.1] at hbU hwU
  have F2_p := Lib.hid (HF.out.below hbU HF.out.lt)
  have F2_r := Lib.hid (HG.out.below hbU HG.out.lt)
  have F2_s := Lib.hid (show Two U2 N2 (.int .i64 sn) (.int .i64 sd) 28 by rw [HU.out.1, HU.out.2]; exact Two.newAt _ _ _ _ _ rfl)
  have B2_ := Lib.hid hwU
  clear HU hbU hwU hb11 hw11 HF HG HBW
  have k0_0 := F2_p.out.cell0
  have k0_1 := F2_p.out.cell1
  have k1_0 := F2_r.out.cell0
  have k1_1 := F2_r.out.cell1
  have hb30 := Below.refl U2.heap.size U2
  have hw30 := B2_.out
  have cc := c2 U2 hw30
  go_wp2_with fail
  refine cc.mono ?_
  rintro e V31 ⟨v31, rfl, hm31, hn31⟩
  have hb31 := hb30.trans (hn31.mono hb30.size)
  have hw31 := hw30.trans (hn31.mono hw30.size)
  subst hm31
  clear cc hb30 hw30 hn31
  clear k0_0 k0_1 k1_0 k1_1
  have k0_0 := (F2_p.out.below hb31 F2_p.out.lt).cell0
  have k0_1 := (F2_p.out.below hb31 F2_p.out.lt).cell1
  have k1_0 := (F2_r.out.below hb31 F2_r.out.lt).cell0
  have k1_1 := (F2_r.out.below hb31 F2_r.out.lt).cell1
  obtain ⟨N4, hNB⟩ : ∃ N4, N4 = V31.heap.size := ⟨_, rfl⟩
  obtain ⟨U4, hU⟩ : ∃ U4, U4 = V31.alloc (.cells #[.int .i64 dn, .int .i64 dd] 28) := ⟨_, rfl⟩
  have HU := Lib.hid (show U4 = _ ∧ N4 = _ from ⟨hU, hNB⟩)
  clear hU hNB
  go_upto_region 3 with fail
  clear k0_0 k0_1 k1_0 k1_1
  rw [← HU.out.2, ← HU.out.1]
  have hbU := hb31.alloc hb31.size (.cells #[.int .i64 dn, .int .i64 dd] 28)
  have hwU := hw31.alloc hw31.size (.cells #[.int .i64 dn, .int .i64 dd] 28)
  rw [← HU.out.1] at hbU hwU
  have F4_p := Lib.hid (F2_p.out.below hbU F2_p.out.lt)
  have F4_r := Lib.hid (F2_r.out.below hbU F2_r.out.lt)
  have F4_s := Lib.hid (F2_s.out.below hbU F2_s.out.lt)
  have F4_d := Lib.hid (show Two U4 N4 (.int .i64 dn) (.int .i64 dd) 28 by rw [HU.out.1, HU.out.2]; exact Two.newAt _ _ _ _ _ rfl)
  have B4_ := Lib.hid hwU
  clear HU hbU hwU hb31 hw31 F2_p F2_r F2_s B2_
  have k0_0 := F4_p.out.cell0
  have k0_1 := F4_p.out.cell1
  have k1_0 := F4_r.out.cell0
  have k1_1 := F4_r.out.cell1
  have hb50 := Below.refl U4.heap.size U4
  have hw50 := B4_.out
  have cc := c3 U4 hw50
  go_wp2_with fail
  refine cc.mono ?_
  rintro e V51 ⟨v51, rfl, hm51, hn51⟩
  have hb51 := hb50.trans (hn51.mono hb50.size)
  have hw51 := hw50.trans (hn51.mono hw50.size)
  subst hm51
  clear cc hb50 hw50 hn51
  clear k0_0 k0_1 k1_0 k1_1
  have k0_0 := (F4_p.out.below hb51 F4_p.out.lt).cell0
  have k0_1 := (F4_p.out.below hb51 F4_p.out.lt).cell1
  have k1_0 := (F4_r.out.below hb51 F4_r.out.lt).cell0
  have k1_1 := (F4_r.out.below hb51 F4_r.out.lt).cell1
  obtain ⟨N6, hNB⟩ : ∃ N6, N6 = V51.heap.size := ⟨_, rfl⟩
  obtain ⟨U6, hU⟩ : ∃ U6, U6 = V51.alloc (.cells #[.int .i64 mn, .int .i64 md] 28) := ⟨_, rfl⟩
  have HU := Lib.hid (show U6 = _ ∧ N6 = _ from ⟨hU, hNB⟩)
  clear hU hNB
  go_upto_region 4 with fail
  clear k0_0 k0_1 k1_0 k1_1
  rw [← HU.out.2, ← HU.out.1]
  have hbU := hb51.alloc hb51.size (.cells #[.int .i64 mn, .int .i64 md] 28)
  have hwU := hw51.alloc hw51.size (.cells #[.int .i64 mn, .int .i64 md] 28)
  rw [← HU.out.1] at hbU hwU
  have F6_p := Lib.hid (F4_p.out.below hbU F4_p.out.lt)
  have F6_r := Lib.hid (F4_r.out.below hbU F4_r.out.lt)
  have F6_s := Lib.hid (F4_s.out.below hbU F4_s.out.lt)
  have F6_d := Lib.hid (F4_d.out.below hbU F4_d.out.lt)
  have F6_m := Lib.hid (show Two U6 N6 (.int .i64 mn) (.int .i64 md) 28 by rw [HU.out.1, HU.out.2]; exact Two.newAt _ _ _ _ _ rfl)
  have B6_ := Lib.hid hwU
  clear HU hbU hwU hb51 hw51 F4_p F4_r F4_s F4_d B4_
  have k0_0 := F6_p.out.cell0
  have k0_1 := F6_p.out.cell1
  have k1_0 := F6_r.out.cell0
  have k1_1 := F6_r.out.cell1
  have hb70 := Below.refl U6.heap.size U6
  have hw70 := B6_.out
  have cc := c4 U6 hw70
  go_wp2_with fail
  refine cc.mono ?_
  rintro e V71 ⟨v71, rfl, hm71, hn71⟩
  have hb71 := hb70.trans (hn71.mono hb70.size)
  have hw71 := hw70.trans (hn71.mono hw70.size)
  subst hm71
  clear cc hb70 hw70 hn71
  clear k0_0 k0_1 k1_0 k1_1
  have k0_0 := (F6_p.out.below hb71 F6_p.out.lt).cell0
  have k0_1 := (F6_p.out.below hb71 F6_p.out.lt).cell1
  have k1_0 := (F6_r.out.below hb71 F6_r.out.lt).cell0
  have k1_1 := (F6_r.out.below hb71 F6_r.out.lt).cell1
  obtain ⟨N8, hNB⟩ : ∃ N8, N8 = V71.heap.size := ⟨_, rfl⟩
  obtain ⟨U8, hU⟩ : ∃ U8, U8 = V71.alloc (.cells #[.int .i64 0, .int .i64 0] 28) := ⟨_, rfl⟩
  have HU := Lib.hid (show U8 = _ ∧ N8 = _ from ⟨hU, hNB⟩)
  clear hU hNB
  go_upto_region 5 with fail
  clear k0_0 k0_1 k1_0 k1_1
  rw [← HU.out.2, ← HU.out.1]
  have hbU := hb71.alloc hb71.size (.cells #[.int .i64 0, .int .i64 0] 28)
  have hwU := hw71.alloc hw71.size (.cells #[.int .i64 0, .int .i64 0] 28)
  rw [← HU.out.1] at hbU hwU
  have F8_p := Lib.hid (F6_p.out.below hbU F6_p.out.lt)
  have F8_r := Lib.hid (F6_r.out.below hbU F6_r.out.lt)
  have F8_s := Lib.hid (F6_s.out.below hbU F6_s.out.lt)
  have F8_d := Lib.hid (F6_d.out.below hbU F6_d.out.lt)
  have F8_m := Lib.hid (F6_m.out.below hbU F6_m.out.lt)
  have F8_q := Lib.hid (show Two U8 N8 (.int .i64 0) (.int .i64 0) 28 by rw [HU.out.1, HU.out.2]; exact Two.newAt _ _ _ _ _ rfl)
  have B8_ := Lib.hid hwU
  clear HU hbU hwU hb71 hw71 F6_p F6_r F6_s F6_d F6_m B6_
  have k0_0 := F8_p.out.cell0
  have k0_1 := F8_p.out.cell1
  have k1_0 := F8_r.out.cell0
  have k1_1 := F8_r.out.cell1
  have hb90 := Below.refl U8.heap.size U8
  have hw90 := B8_.out
  have cc := c5 U8 hw90
  go_wp2_with fail
  refine cc.mono ?_
  rintro e V91 ⟨v91, rfl, hm91, hn91⟩
  have hb91 := hb90.trans (hn91.mono hb90.size)
  have hw91 := hw90.trans (hn91.mono hw90.size)
  subst hm91
  clear cc hb90 hw90 hn91
  clear k0_0 k0_1 k1_0 k1_1
  have k0_0 := (F8_p.out.below hb91 F8_p.out.lt).cell0
  have k0_1 := (F8_p.out.below hb91 F8_p.out.lt).cell1
  have k1_0 := (F8_r.out.below hb91 F8_r.out.lt).cell0
  have k1_1 := (F8_r.out.below hb91 F8_r.out.lt).cell1
  go_upto_region 6 with fail
  obtain ⟨N10, hNB⟩ : ∃ N10, N10 = V91.heap.size := ⟨_, rfl⟩
  obtain ⟨U10, hU⟩ : ∃ U10, U10 = V91.alloc (.cells #[.int .i64 0, .int .i64 0] 28) := ⟨_, rfl⟩
  have HU := Lib.hid (show U10 = _ ∧ N10 = _ from ⟨hU, hNB⟩)
  clear hU hNB
  go_upto_region 7 with fail
  clear k0_0 k0_1 k1_0 k1_1
  rw [← HU.out.2, ← HU.out.1]
  have hbU := hb91.alloc hb91.size (.cells #[.int .i64 0, .int .i64 0] 28)
  have hwU := hw91.alloc hw91.size (.cells #[.int .i64 0, .int .i64 0] 28)
  rw [← HU.out.1] at hbU hwU
  have F10_p := Lib.hid (F8_p.out.below hbU F8_p.out.lt)
  have F10_r := Lib.hid (F8_r.out.below hbU F8_r.out.lt)
  have F10_s := Lib.hid (F8_s.out.below hbU F8_s.out.lt)
  have F10_d := Lib.hid (F8_d.out.below hbU F8_d.out.lt)
  have F10_m := Lib.hid (F8_m.out.below hbU F8_m.out.lt)
  have F10_q := Lib.hid (F8_q.out.below hbU F8_q.out.lt)
  have F10_z := Lib.hid (show Two U10 N10 (.int .i64 0) (.int .i64 0) 28 by rw [HU.out.1, HU.out.2]; exact Two.newAt _ _ _ _ _ rfl)
  have B10_ := Lib.hid hwU
  clear HU hbU hwU hb91 hw91 F8_p F8_r F8_s F8_d F8_m F8_q B8_
  have k0_0 := F10_p.out.cell0
  have k0_1 := F10_p.out.cell1
  have k1_0 := F10_r.out.cell0
  have k1_1 := F10_r.out.cell1
  have hb110 := Below.refl U10.heap.size U10
  have hw110 := B10_.out
  have cc := cv1 U10 hw110
  go_wp2_with fail
  refine cc.mono ?_
  rintro e V111 ⟨v111, rfl, hm111, hn111⟩
  have hb111 := hb110.trans (hn111.mono hb110.size)
  have hw111 := hw110.trans (hn111.mono hw110.size)
  subst hm111
  clear cc hb110 hw110 hn111
  clear k0_0 k0_1 k1_0 k1_1
  have k0_0 := (F10_p.out.below hb111 F10_p.out.lt).cell0
  have k0_1 := (F10_p.out.below hb111 F10_p.out.lt).cell1
  have k1_0 := (F10_r.out.below hb111 F10_r.out.lt).cell0
  have k1_1 := (F10_r.out.below hb111 F10_r.out.lt).cell1
  have cc := cv2 V111 hw111
  go_wp2_with fail
  refine cc.mono ?_
  rintro e V112 ⟨v112, rfl, hm112, hn112⟩
  have hb112 := hb111.trans (hn112.mono hb111.size)
  have hw112 := hw111.trans (hn112.mono hw111.size)
  subst hm112
  clear cc hb111 hw111 hn112
  clear k0_0 k0_1 k1_0 k1_1
  have k0_0 := (F10_p.out.below hb112 F10_p.out.lt).cell0
  have k0_1 := (F10_p.out.below hb112 F10_p.out.lt).cell1
  have k1_0 := (F10_r.out.below hb112 F10_r.out.lt).cell0
  have k1_1 := (F10_r.out.below hb112 F10_r.out.lt).cell1
  clear k0_0 k0_1 k1_0 k1_1
  have F12_p := Lib.hid (F10_p.out.below hb112 F10_p.out.lt)
  have F12_r := Lib.hid (F10_r.out.below hb112 F10_r.out.lt)
  have F12_s := Lib.hid (F10_s.out.below hb112 F10_s.out.lt)
  have F12_d := Lib.hid (F10_d.out.below hb112 F10_d.out.lt)
  have F12_m := Lib.hid (F10_m.out.below hb112 F10_m.out.lt)
  have F12_q := Lib.hid (F10_q.out.below hb112 F10_q.out.lt)
  have F12_z := Lib.hid (F10_z.out.below hb112 F10_z.out.lt)
  have B12_ := Lib.hid hw112
  clear hb112 hw112 F10_p F10_r F10_s F10_d F10_m F10_q F10_z B10_
  clear c1 c2 c3 c4 c5 cv1 cv2
  go_upto_region 9 with fail
  refine Lex.wp_region_mix (fun w' => Two w' w.heap.size (.int .i64 p) (.int .i64 q) 28 ∧ Two w' (w.heap.size + 1) (.int .i64 0) (.int .i64 s) 28)
    [(0, 98), (1, 99), (2, 100), (3, 101), (4, 16), (5, 17)] (fun j => j == 0 || j == 2) (fun j => j == 4 || j == 5) [(6, false), (7, false)]
    (fun i v w' => match i with | 0 => v = .agg #[.int .i64 p, .int .i64 q] | 1 => IsRQ w' v p q 5 | 2 => v = .agg #[.int .i64 0, .int .i64 s] | 3 => IsRQ w' v 0 s 5 | 4 => ∃ B, v = .pointer (some ⟨B, 0, none⟩) ∧ V112.heap.size ≤ B ∧ Four w' B (.bool false) (.slice none 0 0) (.bool false) (.slice none 0 0) 40 | 5 => ∃ B, v = .pointer (some ⟨B, 0, none⟩) ∧ V112.heap.size ≤ B ∧ Four w' B (.bool false) (.slice none 0 0) (.bool false) (.slice none 0 0) 40 | _ => False)
    (by kernel_rfl) (by kernel_rfl) (by kernel_rfl) ⟨F12_p.out, F12_r.out⟩ (fun w1 w2 hS hb => ⟨hS.1.below hb hS.1.lt, hS.2.below hb hS.2.lt⟩) ?_ ?_ ?_
  · refine Lex.all_cons ?_ (Lex.all_cons ?_ (Lex.all_cons ?_ (Lex.all_cons ?_ (Lex.all_cons ?_ (Lex.all_cons ?_ (Lex.all_nil))))))
    · exact fun v w1 w2 h _ => h
    · exact fun v w1 w2 h hb => IsRQ.below h hb
    · exact fun v w1 w2 h _ => h
    · exact fun v w1 w2 h hb => IsRQ.below h hb
    · exact fun v w1 w2 ⟨B, hv, hl, hT⟩ hb => ⟨B, hv, hl, hT.below hb hT.lt⟩
    · exact fun v w1 w2 ⟨B, hv, hl, hT⟩ hb => ⟨B, hv, hl, hT.below hb hT.lt⟩
  · refine Lex.all_cons ?_ (Lex.all_cons ?_ (Lex.all_cons ?_ (Lex.all_cons ?_ (Lex.all_cons ?_ (Lex.all_cons ?_ (Lex.all_nil))))))
    · refine Lex.ob_eager rfl rfl (fun σ w1 hS hB hg => ⟨.agg #[.int .i64 p, .int .i64 q], rfl, fun w2 hS => ?_, rfl⟩)
      clear hg
      simp only [Lex.full, Act.put, List.setIfInBounds_toArray, List.set_cons_zero, List.set_cons_succ]
      have f0_0 := hS.1.cell0
      have f0_1 := hS.1.cell1
      clear hS
      go_simp
      all_goals with_reducible rfl
    · refine Lex.ob_step rfl rfl rfl (fun σ w1 hS hB hg K hK => ?_)
      have HK := Lib.hid hK
      clear hK
      have g0 : (σ 0) = .agg #[.int .i64 p, .int .i64 q] := hg (0, 98) (by simp) (by kernel_rfl)
      clear hg
      simp only [Lex.full, Act.put, List.setIfInBounds_toArray, List.set_cons_zero, List.set_cons_succ]
      simp only [g0]
      have hw1 : Below w.heap.size w w1 := B12_.out.drew.trans (hB.mono B12_.out.size)
      have cc := co1 w1 hw1
      go_wp2_with fail
      refine cc.mono ?_
      rintro e w2 ⟨v1, rfl, hm, hn⟩
      clear cc
      go_wp2_with fail
      exact HK.out _ _ ⟨rfl, hn, hm, fun h => nomatch h⟩
    · refine Lex.ob_eager rfl rfl (fun σ w1 hS hB hg => ⟨.agg #[.int .i64 0, .int .i64 s], rfl, fun w2 hS => ?_, rfl⟩)
      clear hg
      simp only [Lex.full, Act.put, List.setIfInBounds_toArray, List.set_cons_zero, List.set_cons_succ]
      have f1_0 := hS.2.cell0
      have f1_1 := hS.2.cell1
      clear hS
      go_simp
      all_goals with_reducible rfl
    · refine Lex.ob_step rfl rfl rfl (fun σ w1 hS hB hg K hK => ?_)
      have HK := Lib.hid hK
      clear hK
      have g2 : (σ 2) = .agg #[.int .i64 0, .int .i64 s] := hg (2, 100) (by simp) (by kernel_rfl)
      clear hg
      simp only [Lex.full, Act.put, List.setIfInBounds_toArray, List.set_cons_zero, List.set_cons_succ]
      simp only [g2]
      have hw1 : Below w.heap.size w w1 := B12_.out.drew.trans (hB.mono B12_.out.size)
      have cc := co2 w1 hw1
      go_wp2_with fail
      refine cc.mono ?_
      rintro e w2 ⟨v1, rfl, hm, hn⟩
      clear cc
      go_wp2_with fail
      exact HK.out _ _ ⟨rfl, hn, hm, fun h => nomatch h⟩
    · refine Lex.ob_step rfl rfl rfl (fun σ w1 hS hB hg K hK => ?_)
      have HK := Lib.hid hK
      clear hK
      clear hg
      simp only [Lex.full, Act.put, List.setIfInBounds_toArray, List.set_cons_zero, List.set_cons_succ]
      go_wp2_with fail
      refine HK.out _ _ ⟨rfl, (Below.refl _ _).alloc (Nat.le_refl _) _, ⟨w1.heap.size, rfl, show V112.heap.size ≤ _ from hB.size, Four.newAt _ _ _ _ _ _ _ rfl⟩, fun _ => ?_⟩
      refine Lex.all_cons ?_ (Lex.all_cons ?_ (Lex.all_cons ?_ (Lex.all_cons ?_ (Lex.all_cons ?_ (Lex.all_cons ?_ (Lex.all_nil))))))
      · intro u h; cases h
      · intro u h; cases h
      · intro u h; cases h
      · intro u h; cases h
      · rintro u _ ⟨B, rfl, _, hT⟩ he; have := hT.lt; have he : Value.pointer (some ⟨B, 0, none⟩) = .pointer (some ⟨w1.heap.size, 0, none⟩) := he; injection he with he; injection he with he; injection he with he; omega
      · rintro u _ ⟨B, rfl, _, hT⟩ he; have := hT.lt; have he : Value.pointer (some ⟨B, 0, none⟩) = .pointer (some ⟨w1.heap.size, 0, none⟩) := he; injection he with he; injection he with he; injection he with he; omega
    · refine Lex.ob_step rfl rfl rfl (fun σ w1 hS hB hg K hK => ?_)
      have HK := Lib.hid hK
      clear hK
      clear hg
      simp only [Lex.full, Act.put, List.setIfInBounds_toArray, List.set_cons_zero, List.set_cons_succ]
      go_wp2_with fail
      refine HK.out _ _ ⟨rfl, (Below.refl _ _).alloc (Nat.le_refl _) _, ⟨w1.heap.size, rfl, show V112.heap.size ≤ _ from hB.size, Four.newAt _ _ _ _ _ _ _ rfl⟩, fun _ => ?_⟩
      refine Lex.all_cons ?_ (Lex.all_cons ?_ (Lex.all_cons ?_ (Lex.all_cons ?_ (Lex.all_cons ?_ (Lex.all_cons ?_ (Lex.all_nil))))))
      · intro u h; cases h
      · intro u h; cases h
      · intro u h; cases h
      · intro u h; cases h
      · rintro u _ ⟨B, rfl, _, hT⟩ he; have := hT.lt; have he : Value.pointer (some ⟨B, 0, none⟩) = .pointer (some ⟨w1.heap.size, 0, none⟩) := he; injection he with he; injection he with he; injection he with he; omega
      · rintro u _ ⟨B, rfl, _, hT⟩ he; have := hT.lt; have he : Value.pointer (some ⟨B, 0, none⟩) = .pointer (some ⟨w1.heap.size, 0, none⟩) := he; injection he with he; injection he with he; injection he with he; omega
  · intro σ V13_ hS hB hg hd
    have e0 : (σ 0) = .agg #[.int .i64 p, .int .i64 q] := hg (0, 98) (by simp)
    have e1 : IsRQ V13_ (σ 1) p q 5 := hg (1, 99) (by simp)
    have e2 : (σ 2) = .agg #[.int .i64 0, .int .i64 s] := hg (2, 100) (by simp)
    have e3 : IsRQ V13_ (σ 3) 0 s 5 := hg (3, 101) (by simp)
    have e4 : ∃ B, (σ 4) = .pointer (some ⟨B, 0, none⟩) ∧ V112.heap.size ≤ B ∧ Four V13_ B (.bool false) (.slice none 0 0) (.bool false) (.slice none 0 0) 40 := hg (4, 16) (by simp)
    have e5 : ∃ B, (σ 5) = .pointer (some ⟨B, 0, none⟩) ∧ V112.heap.size ≤ B ∧ Four V13_ B (.bool false) (.slice none 0 0) (.bool false) (.slice none 0 0) 40 := hg (5, 17) (by simp)
    have n13_4_5 : σ 4 ≠ σ 5 := hd (4, 16) (by simp) (5, 17) (by simp) (by decide) rfl rfl
    clear hg hd
    simp only [Lex.full, Act.put, List.setIfInBounds_toArray, List.set_cons_zero, List.set_cons_succ]
    generalize σ 0 = s13_0 at *
    generalize σ 1 = s13_1 at *
    generalize σ 2 = s13_2 at *
    generalize σ 3 = s13_3 at *
    generalize σ 4 = s13_4 at *
    generalize σ 5 = s13_5 at *
    clear σ
    subst e0
    obtain ⟨px5, Ax5, nx5, cx5, px6, Ax6, nx6, cx6, rfl, hPx, hQx⟩ := IsRQ.open' e1
    have hX := (show IsRQ V13_ (.agg #[.bool px5.1, .slice Ax5 nx5 cx5, .bool px6.1, .slice Ax6 nx6 cx6]) p q 5 from ⟨px5.1, _, px6.1, _, rfl, hPx, hQx⟩)
    subst e2
    obtain ⟨py5, Ay5, ny5, cy5, py6, Ay6, ny6, cy6, rfl, hPy, hQy⟩ := IsRQ.open' e3
    have hY := (show IsRQ V13_ (.agg #[.bool py5.1, .slice Ay5 ny5 cy5, .bool py6.1, .slice Ay6 ny6 cy6]) 0 s 5 from ⟨py5.1, _, py6.1, _, rfl, hPy, hQy⟩)
    obtain ⟨B13_4, rfl, l13_4, T4⟩ := e4
    have HT13_4 := Lib.hid T4
    clear T4
    obtain ⟨B13_5, rfl, l13_5, T5⟩ := e5
    have HT13_5 := Lib.hid T5
    clear T5
    replace n13_4_5 : B13_4 ≠ B13_5 := fun e => n13_4_5 (by rw [e])
    have HBm := Lib.hid (show Below w.heap.size w V13_ from B12_.out.drew.trans (hB.mono B12_.out.size))
    have HBb := Lib.hid (show Below V112.heap.size V112 V13_ from ⟨hB.os, hB.tape, hB.output, hB.size, hB.block⟩)
    have HSm := Lib.hid hS
    clear hB hS
    have l13_p := F12_p.out.lt
    have G13_p := Lib.hid HSm.out.1
    have l13_r := F12_r.out.lt
    have G13_r := Lib.hid HSm.out.2
    have l13_s := F12_s.out.lt
    have G13_s := Lib.hid (F12_s.out.below HBb.out F12_s.out.lt)
    have l13_d := F12_d.out.lt
    have G13_d := Lib.hid (F12_d.out.below HBb.out F12_d.out.lt)
    have l13_m := F12_m.out.lt
    have G13_m := Lib.hid (F12_m.out.below HBb.out F12_m.out.lt)
    have l13_q := F12_q.out.lt
    have G13_q := Lib.hid (F12_q.out.below HBb.out F12_q.out.lt)
    have l13_z := F12_z.out.lt
    have G13_z := Lib.hid (F12_z.out.below HBb.out F12_z.out.lt)
    have lw13 := B12_.out.size
    clear HSm HBb F12_p F12_r F12_s F12_d F12_m F12_q F12_z B12_
    have Y13_x := Lib.hid hX
    clear hX
    have Y13_y := Lib.hid hY
    clear hY
    refine Lex.lex_do rfl ?_
    have r0 := HT13_4.out.cell0
    have g0 := HT13_4.out.free 0
    have r1 := HT13_4.out.cell1
    have g1 := HT13_4.out.free 1
    have r2 := HT13_4.out.cell2
    have g2 := HT13_4.out.free 2
    have r3 := HT13_4.out.cell3
    have g3 := HT13_4.out.free 3
    obtain ⟨V13_s1, hV1⟩ : ∃ V13_s1, V13_s1 = ((((V13_.setCell ⟨B13_4, 0, none⟩ (.bool px5.1)).setCell ⟨B13_4, 1, none⟩ (.slice Ax5 nx5 cx5)).setCell ⟨B13_4, 2, none⟩ (.bool px6.1)).setCell ⟨B13_4, 3, none⟩ (.slice Ax6 nx6 cx6)) := ⟨_, rfl⟩
    have HV1 := Lib.hid hV1
    clear hV1
    go_wp2_with fail
    rw [← HV1.out]
    clear r0 g0 r1 g1 r2 g2 r3 g3
    have G13_ps := Lib.hid (show Two V13_s1 w.heap.size (.int .i64 p) (.int .i64 q) 28 by rw [HV1.out]; exact ((((G13_p.out.setOther ⟨B13_4, 0, none⟩ _ (by dsimp only; omega)).setOther ⟨B13_4, 1, none⟩ _ (by dsimp only; omega)).setOther ⟨B13_4, 2, none⟩ _ (by dsimp only; omega)).setOther ⟨B13_4, 3, none⟩ _ (by dsimp only; omega)))
    have G13_rs := Lib.hid (show Two V13_s1 (w.heap.size + 1) (.int .i64 0) (.int .i64 s) 28 by rw [HV1.out]; exact ((((G13_r.out.setOther ⟨B13_4, 0, none⟩ _ (by dsimp only; omega)).setOther ⟨B13_4, 1, none⟩ _ (by dsimp only; omega)).setOther ⟨B13_4, 2, none⟩ _ (by dsimp only; omega)).setOther ⟨B13_4, 3, none⟩ _ (by dsimp only; omega)))
    have G13_ss := Lib.hid (show Two V13_s1 N2 (.int .i64 sn) (.int .i64 sd) 28 by rw [HV1.out]; exact ((((G13_s.out.setOther ⟨B13_4, 0, none⟩ _ (by dsimp only; omega)).setOther ⟨B13_4, 1, none⟩ _ (by dsimp only; omega)).setOther ⟨B13_4, 2, none⟩ _ (by dsimp only; omega)).setOther ⟨B13_4, 3, none⟩ _ (by dsimp only; omega)))
    have G13_ds := Lib.hid (show Two V13_s1 N4 (.int .i64 dn) (.int .i64 dd) 28 by rw [HV1.out]; exact ((((G13_d.out.setOther ⟨B13_4, 0, none⟩ _ (by dsimp only; omega)).setOther ⟨B13_4, 1, none⟩ _ (by dsimp only; omega)).setOther ⟨B13_4, 2, none⟩ _ (by dsimp only; omega)).setOther ⟨B13_4, 3, none⟩ _ (by dsimp only; omega)))
    have G13_ms := Lib.hid (show Two V13_s1 N6 (.int .i64 mn) (.int .i64 md) 28 by rw [HV1.out]; exact ((((G13_m.out.setOther ⟨B13_4, 0, none⟩ _ (by dsimp only; omega)).setOther ⟨B13_4, 1, none⟩ _ (by dsimp only; omega)).setOther ⟨B13_4, 2, none⟩ _ (by dsimp only; omega)).setOther ⟨B13_4, 3, none⟩ _ (by dsimp only; omega)))
    have G13_qs := Lib.hid (show Two V13_s1 N8 (.int .i64 0) (.int .i64 0) 28 by rw [HV1.out]; exact ((((G13_q.out.setOther ⟨B13_4, 0, none⟩ _ (by dsimp only; omega)).setOther ⟨B13_4, 1, none⟩ _ (by dsimp only; omega)).setOther ⟨B13_4, 2, none⟩ _ (by dsimp only; omega)).setOther ⟨B13_4, 3, none⟩ _ (by dsimp only; omega)))
    have G13_zs := Lib.hid (show Two V13_s1 N10 (.int .i64 0) (.int .i64 0) 28 by rw [HV1.out]; exact ((((G13_z.out.setOther ⟨B13_4, 0, none⟩ _ (by dsimp only; omega)).setOther ⟨B13_4, 1, none⟩ _ (by dsimp only; omega)).setOther ⟨B13_4, 2, none⟩ _ (by dsimp only; omega)).setOther ⟨B13_4, 3, none⟩ _ (by dsimp only; omega)))
    replace HT13_5 := Lib.hid (show Four V13_s1 _ _ _ _ _ _ by rw [HV1.out]; exact ((((HT13_5.out.setOther ⟨B13_4, 0, none⟩ _ (by dsimp only; omega)).setOther ⟨B13_4, 1, none⟩ _ (by dsimp only; omega)).setOther ⟨B13_4, 2, none⟩ _ (by dsimp only; omega)).setOther ⟨B13_4, 3, none⟩ _ (by dsimp only; omega)))
    have G13_X := Lib.hid (show Four V13_s1 B13_4 (.bool px5.1) (.slice Ax5 nx5 cx5) (.bool px6.1) (.slice Ax6 nx6 cx6) 40 by rw [HV1.out]; exact HT13_4.out.set4 _ _ _ _)
    have Y13_xs := Lib.hid (show IsRQ V13_s1 (.agg #[.bool px5.1, .slice Ax5 nx5 cx5, .bool px6.1, .slice Ax6 nx6 cx6]) p q 5 by rw [HV1.out]; exact IsRQ.stored4 Y13_x.out HT13_4.out)
    clear Y13_x
    have Y13_ys := Lib.hid (show IsRQ V13_s1 (.agg #[.bool py5.1, .slice Ay5 ny5 cy5, .bool py6.1, .slice Ay6 ny6 cy6]) 0 s 5 by rw [HV1.out]; exact IsRQ.stored4 Y13_y.out HT13_4.out)
    clear Y13_y
    have HB13_1 := Lib.hid (show Below w.heap.size w V13_s1 by rw [HV1.out]; exact ((((HBm.out.setCell (by dsimp only; omega) _).setCell (by dsimp only; omega) _).setCell (by dsimp only; omega) _).setCell (by dsimp only; omega) _))
    clear HV1 HT13_4 HBm G13_p G13_r G13_s G13_d G13_m G13_q G13_z
    refine Lex.lexQ_normal (fun _ => ⟨G13_ps.out, G13_rs.out⟩) ?_
    refine Lex.lex_do rfl ?_
    have r0 := HT13_5.out.cell0
    have g0 := HT13_5.out.free 0
    have r1 := HT13_5.out.cell1
    have g1 := HT13_5.out.free 1
    have r2 := HT13_5.out.cell2
    have g2 := HT13_5.out.free 2
    have r3 := HT13_5.out.cell3
    have g3 := HT13_5.out.free 3
    obtain ⟨V13_s2, hV1⟩ : ∃ V13_s2, V13_s2 = ((((V13_s1.setCell ⟨B13_5, 0, none⟩ (.bool py5.1)).setCell ⟨B13_5, 1, none⟩ (.slice Ay5 ny5 cy5)).setCell ⟨B13_5, 2, none⟩ (.bool py6.1)).setCell ⟨B13_5, 3, none⟩ (.slice Ay6 ny6 cy6)) := ⟨_, rfl⟩
    have HV1 := Lib.hid hV1
    clear hV1
    go_wp2_with fail
    rw [← HV1.out]
    clear r0 g0 r1 g1 r2 g2 r3 g3
    have G13_pss := Lib.hid (show Two V13_s2 w.heap.size (.int .i64 p) (.int .i64 q) 28 by rw [HV1.out]; exact ((((G13_ps.out.setOther ⟨B13_5, 0, none⟩ _ (by dsimp only; omega)).setOther ⟨B13_5, 1, none⟩ _ (by dsimp only; omega)).setOther ⟨B13_5, 2, none⟩ _ (by dsimp only; omega)).setOther ⟨B13_5, 3, none⟩ _ (by dsimp only; omega)))
    have G13_rss := Lib.hid (show Two V13_s2 (w.heap.size + 1) (.int .i64 0) (.int .i64 s) 28 by rw [HV1.out]; exact ((((G13_rs.out.setOther ⟨B13_5, 0, none⟩ _ (by dsimp only; omega)).setOther ⟨B13_5, 1, none⟩ _ (by dsimp only; omega)).setOther ⟨B13_5, 2, none⟩ _ (by dsimp only; omega)).setOther ⟨B13_5, 3, none⟩ _ (by dsimp only; omega)))
    have G13_sss := Lib.hid (show Two V13_s2 N2 (.int .i64 sn) (.int .i64 sd) 28 by rw [HV1.out]; exact ((((G13_ss.out.setOther ⟨B13_5, 0, none⟩ _ (by dsimp only; omega)).setOther ⟨B13_5, 1, none⟩ _ (by dsimp only; omega)).setOther ⟨B13_5, 2, none⟩ _ (by dsimp only; omega)).setOther ⟨B13_5, 3, none⟩ _ (by dsimp only; omega)))
    have G13_dss := Lib.hid (show Two V13_s2 N4 (.int .i64 dn) (.int .i64 dd) 28 by rw [HV1.out]; exact ((((G13_ds.out.setOther ⟨B13_5, 0, none⟩ _ (by dsimp only; omega)).setOther ⟨B13_5, 1, none⟩ _ (by dsimp only; omega)).setOther ⟨B13_5, 2, none⟩ _ (by dsimp only; omega)).setOther ⟨B13_5, 3, none⟩ _ (by dsimp only; omega)))
    have G13_mss := Lib.hid (show Two V13_s2 N6 (.int .i64 mn) (.int .i64 md) 28 by rw [HV1.out]; exact ((((G13_ms.out.setOther ⟨B13_5, 0, none⟩ _ (by dsimp only; omega)).setOther ⟨B13_5, 1, none⟩ _ (by dsimp only; omega)).setOther ⟨B13_5, 2, none⟩ _ (by dsimp only; omega)).setOther ⟨B13_5, 3, none⟩ _ (by dsimp only; omega)))
    have G13_qss := Lib.hid (show Two V13_s2 N8 (.int .i64 0) (.int .i64 0) 28 by rw [HV1.out]; exact ((((G13_qs.out.setOther ⟨B13_5, 0, none⟩ _ (by dsimp only; omega)).setOther ⟨B13_5, 1, none⟩ _ (by dsimp only; omega)).setOther ⟨B13_5, 2, none⟩ _ (by dsimp only; omega)).setOther ⟨B13_5, 3, none⟩ _ (by dsimp only; omega)))
    have G13_zss := Lib.hid (show Two V13_s2 N10 (.int .i64 0) (.int .i64 0) 28 by rw [HV1.out]; exact ((((G13_zs.out.setOther ⟨B13_5, 0, none⟩ _ (by dsimp only; omega)).setOther ⟨B13_5, 1, none⟩ _ (by dsimp only; omega)).setOther ⟨B13_5, 2, none⟩ _ (by dsimp only; omega)).setOther ⟨B13_5, 3, none⟩ _ (by dsimp only; omega)))
    have G13_Xs := Lib.hid (show Four V13_s2 B13_4 (.bool px5.1) (.slice Ax5 nx5 cx5) (.bool px6.1) (.slice Ax6 nx6 cx6) 40 by rw [HV1.out]; exact ((((G13_X.out.setOther ⟨B13_5, 0, none⟩ _ (by dsimp only; omega)).setOther ⟨B13_5, 1, none⟩ _ (by dsimp only; omega)).setOther ⟨B13_5, 2, none⟩ _ (by dsimp only; omega)).setOther ⟨B13_5, 3, none⟩ _ (by dsimp only; omega)))
    have G13_Y := Lib.hid (show Four V13_s2 B13_5 (.bool py5.1) (.slice Ay5 ny5 cy5) (.bool py6.1) (.slice Ay6 ny6 cy6) 40 by rw [HV1.out]; exact HT13_5.out.set4 _ _ _ _)
    have Y13_xss := Lib.hid (show IsRQ V13_s2 (.agg #[.bool px5.1, .slice Ax5 nx5 cx5, .bool px6.1, .slice Ax6 nx6 cx6]) p q 5 by rw [HV1.out]; exact IsRQ.stored4 Y13_xs.out HT13_5.out)
    clear Y13_xs
    have Y13_yss := Lib.hid (show IsRQ V13_s2 (.agg #[.bool py5.1, .slice Ay5 ny5 cy5, .bool py6.1, .slice Ay6 ny6 cy6]) 0 s 5 by rw [HV1.out]; exact IsRQ.stored4 Y13_ys.out HT13_5.out)
    clear Y13_ys
    have HB13_2 := Lib.hid (show Below w.heap.size w V13_s2 by rw [HV1.out]; exact ((((HB13_1.out.setCell (by dsimp only; omega) _).setCell (by dsimp only; omega) _).setCell (by dsimp only; omega) _).setCell (by dsimp only; omega) _))
    clear HV1 HT13_5 HB13_1 G13_ps G13_rs G13_ss G13_ds G13_ms G13_qs G13_zs G13_X
    refine Lex.lexQ_normal (fun _ => ⟨G13_pss.out, G13_rss.out⟩) ?_
    refine Lex.lex_nil ?_
    clear hPx hQx hPy hQy co1 co2
    go_upto_region 10 with fail
    have k0_0 := G13_Xs.out.cell0
    have k0_1 := G13_Xs.out.cell1
    have k0_2 := G13_Xs.out.cell2
    have k0_3 := G13_Xs.out.cell3
    have k1_0 := G13_Y.out.cell0
    have k1_1 := G13_Y.out.cell1
    have k1_2 := G13_Y.out.cell2
    have k1_3 := G13_Y.out.cell3
    have hb140 := Below.refl V13_s2.heap.size V13_s2
    have hw140 := HB13_2.out
    have cc := cqa V13_s2 hw140 _ _ (Y13_xss.out.below hb140) (Y13_yss.out.below hb140)
    go_wp2_with fail
    refine cc.mono ?_
    rintro e V141 ⟨v141, rfl, hm141, hn141⟩
    have hb141 := hb140.trans (hn141.mono hb140.size)
    have hw141 := hw140.trans (hn141.mono hw140.size)
    clear cc hb140 hw140 hn141
    clear k0_0 k0_1 k0_2 k0_3 k1_0 k1_1 k1_2 k1_3
    have k0_0 := (G13_Xs.out.below hb141 G13_Xs.out.lt).cell0
    have k0_1 := (G13_Xs.out.below hb141 G13_Xs.out.lt).cell1
    have k0_2 := (G13_Xs.out.below hb141 G13_Xs.out.lt).cell2
    have k0_3 := (G13_Xs.out.below hb141 G13_Xs.out.lt).cell3
    have k1_0 := (G13_Y.out.below hb141 G13_Y.out.lt).cell0
    have k1_1 := (G13_Y.out.below hb141 G13_Y.out.lt).cell1
    have k1_2 := (G13_Y.out.below hb141 G13_Y.out.lt).cell2
    have k1_3 := (G13_Y.out.below hb141 G13_Y.out.lt).cell3
    have cc := cfa V141 hw141 _ hm141
    go_wp2_with fail
    refine cc.mono ?_
    rintro e V142 ⟨v142, rfl, hm142, hn142⟩
    have hb142 := hb141.trans (hn142.mono hb141.size)
    have hw142 := hw141.trans (hn142.mono hw141.size)
    clear hm141
    subst hm142
    clear cc hb141 hw141 hn142
    clear k0_0 k0_1 k0_2 k0_3 k1_0 k1_1 k1_2 k1_3
    have k0_0 := (G13_Xs.out.below hb142 G13_Xs.out.lt).cell0
    have k0_1 := (G13_Xs.out.below hb142 G13_Xs.out.lt).cell1
    have k0_2 := (G13_Xs.out.below hb142 G13_Xs.out.lt).cell2
    have k0_3 := (G13_Xs.out.below hb142 G13_Xs.out.lt).cell3
    have k1_0 := (G13_Y.out.below hb142 G13_Y.out.lt).cell0
    have k1_1 := (G13_Y.out.below hb142 G13_Y.out.lt).cell1
    have k1_2 := (G13_Y.out.below hb142 G13_Y.out.lt).cell2
    have k1_3 := (G13_Y.out.below hb142 G13_Y.out.lt).cell3
    clear cqa cfa
    obtain ⟨N15, hNB⟩ : ∃ N15, N15 = V142.heap.size := ⟨_, rfl⟩
    obtain ⟨U15, hU⟩ : ∃ U15, U15 = V142.alloc (.cells #[.int .i64 sn, .int .i64 sd] 28) := ⟨_, rfl⟩
    have HU := Lib.hid (show U15 = _ ∧ N15 = _ from ⟨hU, hNB⟩)
    clear hU hNB
    go_upto_region 11 with fail
    clear k0_0 k0_1 k0_2 k0_3 k1_0 k1_1 k1_2 k1_3
    rw [← HU.out.2, ← HU.out.1]
    have hbU := hb142.alloc hb142.size (.cells #[.int .i64 sn, .int .i64 sd] 28)
    have hwU := hw142.alloc hw142.size (.cells #[.int .i64 sn, .int .i64 sd] 28)
    rw [← HU.out.1] at hbU hwU
    have F15_p := Lib.hid (G13_pss.out.below hbU G13_pss.out.lt)
    have F15_r := Lib.hid (G13_rss.out.below hbU G13_rss.out.lt)
    have F15_s := Lib.hid (G13_sss.out.below hbU G13_sss.out.lt)
    have F15_d := Lib.hid (G13_dss.out.below hbU G13_dss.out.lt)
    have F15_m := Lib.hid (G13_mss.out.below hbU G13_mss.out.lt)
    have F15_q := Lib.hid (G13_qss.out.below hbU G13_qss.out.lt)
    have F15_z := Lib.hid (G13_zss.out.below hbU G13_zss.out.lt)
    have F15_X := Lib.hid (G13_Xs.out.below hbU G13_Xs.out.lt)
    have F15_Y := Lib.hid (G13_Y.out.below hbU G13_Y.out.lt)
    have F15_ra := Lib.hid (show Two U15 N15 (.int .i64 sn) (.int .i64 sd) 28 by rw [HU.out.1, HU.out.2]; exact Two.newAt _ _ _ _ _ rfl)
    have X15_x := Lib.hid (Y13_xss.out.below hbU)
    have X15_y := Lib.hid (Y13_yss.out.below hbU)
    have B15_ := Lib.hid hwU
    clear HU hbU hwU hb142 hw142 G13_pss G13_rss G13_sss G13_dss G13_mss G13_qss G13_zss G13_Xs G13_Y HB13_2 Y13_xss Y13_yss
    have k0_0 := F15_X.out.cell0
    have k0_1 := F15_X.out.cell1
    have k0_2 := F15_X.out.cell2
    have k0_3 := F15_X.out.cell3
    have k1_0 := F15_Y.out.cell0
    have k1_1 := F15_Y.out.cell1
    have k1_2 := F15_Y.out.cell2
    have k1_3 := F15_Y.out.cell3
    have hb160 := Below.refl U15.heap.size U15
    have hw160 := B15_.out
    have cc := cqs U15 hw160 _ _ (X15_x.out.below hb160) (X15_y.out.below hb160)
    go_wp2_with fail
    refine cc.mono ?_
    rintro e V161 ⟨v161, rfl, hm161, hn161⟩
    have hb161 := hb160.trans (hn161.mono hb160.size)
    have hw161 := hw160.trans (hn161.mono hw160.size)
    clear cc hb160 hw160 hn161
    clear k0_0 k0_1 k0_2 k0_3 k1_0 k1_1 k1_2 k1_3
    have k0_0 := (F15_X.out.below hb161 F15_X.out.lt).cell0
    have k0_1 := (F15_X.out.below hb161 F15_X.out.lt).cell1
    have k0_2 := (F15_X.out.below hb161 F15_X.out.lt).cell2
    have k0_3 := (F15_X.out.below hb161 F15_X.out.lt).cell3
    have k1_0 := (F15_Y.out.below hb161 F15_Y.out.lt).cell0
    have k1_1 := (F15_Y.out.below hb161 F15_Y.out.lt).cell1
    have k1_2 := (F15_Y.out.below hb161 F15_Y.out.lt).cell2
    have k1_3 := (F15_Y.out.below hb161 F15_Y.out.lt).cell3
    have cc := cfs V161 hw161 _ hm161
    go_wp2_with fail
    refine cc.mono ?_
    rintro e V162 ⟨v162, rfl, hm162, hn162⟩
    have hb162 := hb161.trans (hn162.mono hb161.size)
    have hw162 := hw161.trans (hn162.mono hw161.size)
    clear hm161
    subst hm162
    clear cc hb161 hw161 hn162
    clear k0_0 k0_1 k0_2 k0_3 k1_0 k1_1 k1_2 k1_3
    have k0_0 := (F15_X.out.below hb162 F15_X.out.lt).cell0
    have k0_1 := (F15_X.out.below hb162 F15_X.out.lt).cell1
    have k0_2 := (F15_X.out.below hb162 F15_X.out.lt).cell2
    have k0_3 := (F15_X.out.below hb162 F15_X.out.lt).cell3
    have k1_0 := (F15_Y.out.below hb162 F15_Y.out.lt).cell0
    have k1_1 := (F15_Y.out.below hb162 F15_Y.out.lt).cell1
    have k1_2 := (F15_Y.out.below hb162 F15_Y.out.lt).cell2
    have k1_3 := (F15_Y.out.below hb162 F15_Y.out.lt).cell3
    clear cqs cfs
    obtain ⟨N17, hNB⟩ : ∃ N17, N17 = V162.heap.size := ⟨_, rfl⟩
    obtain ⟨U17, hU⟩ : ∃ U17, U17 = V162.alloc (.cells #[.int .i64 dn, .int .i64 dd] 28) := ⟨_, rfl⟩
    have HU := Lib.hid (show U17 = _ ∧ N17 = _ from ⟨hU, hNB⟩)
    clear hU hNB
    go_upto_region 12 with fail
    clear k0_0 k0_1 k0_2 k0_3 k1_0 k1_1 k1_2 k1_3
    rw [← HU.out.2, ← HU.out.1]
    have hbU := hb162.alloc hb162.size (.cells #[.int .i64 dn, .int .i64 dd] 28)
    have hwU := hw162.alloc hw162.size (.cells #[.int .i64 dn, .int .i64 dd] 28)
    rw [← HU.out.1] at hbU hwU
    have F17_p := Lib.hid (F15_p.out.below hbU F15_p.out.lt)
    have F17_r := Lib.hid (F15_r.out.below hbU F15_r.out.lt)
    have F17_s := Lib.hid (F15_s.out.below hbU F15_s.out.lt)
    have F17_d := Lib.hid (F15_d.out.below hbU F15_d.out.lt)
    have F17_m := Lib.hid (F15_m.out.below hbU F15_m.out.lt)
    have F17_q := Lib.hid (F15_q.out.below hbU F15_q.out.lt)
    have F17_z := Lib.hid (F15_z.out.below hbU F15_z.out.lt)
    have F17_X := Lib.hid (F15_X.out.below hbU F15_X.out.lt)
    have F17_Y := Lib.hid (F15_Y.out.below hbU F15_Y.out.lt)
    have F17_ra := Lib.hid (F15_ra.out.below hbU F15_ra.out.lt)
    have F17_rs := Lib.hid (show Two U17 N17 (.int .i64 dn) (.int .i64 dd) 28 by rw [HU.out.1, HU.out.2]; exact Two.newAt _ _ _ _ _ rfl)
    have X17_x := Lib.hid (X15_x.out.below hbU)
    have X17_y := Lib.hid (X15_y.out.below hbU)
    have B17_ := Lib.hid hwU
    clear HU hbU hwU hb162 hw162 F15_p F15_r F15_s F15_d F15_m F15_q F15_z F15_X F15_Y F15_ra B15_ X15_x X15_y
    have k0_0 := F17_X.out.cell0
    have k0_1 := F17_X.out.cell1
    have k0_2 := F17_X.out.cell2
    have k0_3 := F17_X.out.cell3
    have k1_0 := F17_Y.out.cell0
    have k1_1 := F17_Y.out.cell1
    have k1_2 := F17_Y.out.cell2
    have k1_3 := F17_Y.out.cell3
    have hb180 := Below.refl U17.heap.size U17
    have hw180 := B17_.out
    have cc := cqm U17 hw180 _ _ (X17_x.out.below hb180) (X17_y.out.below hb180)
    go_wp2_with fail
    refine cc.mono ?_
    rintro e V181 ⟨v181, rfl, hm181, hn181⟩
    have hb181 := hb180.trans (hn181.mono hb180.size)
    have hw181 := hw180.trans (hn181.mono hw180.size)
    clear cc hb180 hw180 hn181
    clear k0_0 k0_1 k0_2 k0_3 k1_0 k1_1 k1_2 k1_3
    have k0_0 := (F17_X.out.below hb181 F17_X.out.lt).cell0
    have k0_1 := (F17_X.out.below hb181 F17_X.out.lt).cell1
    have k0_2 := (F17_X.out.below hb181 F17_X.out.lt).cell2
    have k0_3 := (F17_X.out.below hb181 F17_X.out.lt).cell3
    have k1_0 := (F17_Y.out.below hb181 F17_Y.out.lt).cell0
    have k1_1 := (F17_Y.out.below hb181 F17_Y.out.lt).cell1
    have k1_2 := (F17_Y.out.below hb181 F17_Y.out.lt).cell2
    have k1_3 := (F17_Y.out.below hb181 F17_Y.out.lt).cell3
    have cc := cfm V181 hw181 _ hm181
    go_wp2_with fail
    refine cc.mono ?_
    rintro e V182 ⟨v182, rfl, hm182, hn182⟩
    have hb182 := hb181.trans (hn182.mono hb181.size)
    have hw182 := hw181.trans (hn182.mono hw181.size)
    clear hm181
    subst hm182
    clear cc hb181 hw181 hn182
    clear k0_0 k0_1 k0_2 k0_3 k1_0 k1_1 k1_2 k1_3
    have k0_0 := (F17_X.out.below hb182 F17_X.out.lt).cell0
    have k0_1 := (F17_X.out.below hb182 F17_X.out.lt).cell1
    have k0_2 := (F17_X.out.below hb182 F17_X.out.lt).cell2
    have k0_3 := (F17_X.out.below hb182 F17_X.out.lt).cell3
    have k1_0 := (F17_Y.out.below hb182 F17_Y.out.lt).cell0
    have k1_1 := (F17_Y.out.below hb182 F17_Y.out.lt).cell1
    have k1_2 := (F17_Y.out.below hb182 F17_Y.out.lt).cell2
    have k1_3 := (F17_Y.out.below hb182 F17_Y.out.lt).cell3
    clear cqm cfm
    obtain ⟨N19, hNB⟩ : ∃ N19, N19 = V182.heap.size := ⟨_, rfl⟩
    obtain ⟨U19, hU⟩ : ∃ U19, U19 = V182.alloc (.cells #[.int .i64 mn, .int .i64 md] 28) := ⟨_, rfl⟩
    have HU := Lib.hid (show U19 = _ ∧ N19 = _ from ⟨hU, hNB⟩)
    clear hU hNB
    go_upto_region 13 with fail
    clear k0_0 k0_1 k0_2 k0_3 k1_0 k1_1 k1_2 k1_3
    rw [← HU.out.2, ← HU.out.1]
    have hbU := hb182.alloc hb182.size (.cells #[.int .i64 mn, .int .i64 md] 28)
    have hwU := hw182.alloc hw182.size (.cells #[.int .i64 mn, .int .i64 md] 28)
    rw [← HU.out.1] at hbU hwU
    have F19_p := Lib.hid (F17_p.out.below hbU F17_p.out.lt)
    have F19_r := Lib.hid (F17_r.out.below hbU F17_r.out.lt)
    have F19_s := Lib.hid (F17_s.out.below hbU F17_s.out.lt)
    have F19_d := Lib.hid (F17_d.out.below hbU F17_d.out.lt)
    have F19_m := Lib.hid (F17_m.out.below hbU F17_m.out.lt)
    have F19_q := Lib.hid (F17_q.out.below hbU F17_q.out.lt)
    have F19_z := Lib.hid (F17_z.out.below hbU F17_z.out.lt)
    have F19_X := Lib.hid (F17_X.out.below hbU F17_X.out.lt)
    have F19_Y := Lib.hid (F17_Y.out.below hbU F17_Y.out.lt)
    have F19_ra := Lib.hid (F17_ra.out.below hbU F17_ra.out.lt)
    have F19_rs := Lib.hid (F17_rs.out.below hbU F17_rs.out.lt)
    have F19_rm := Lib.hid (show Two U19 N19 (.int .i64 mn) (.int .i64 md) 28 by rw [HU.out.1, HU.out.2]; exact Two.newAt _ _ _ _ _ rfl)
    have X19_x := Lib.hid (X17_x.out.below hbU)
    have X19_y := Lib.hid (X17_y.out.below hbU)
    have B19_ := Lib.hid hwU
    clear HU hbU hwU hb182 hw182 F17_p F17_r F17_s F17_d F17_m F17_q F17_z F17_X F17_Y F17_ra F17_rs B17_ X17_x X17_y
    have q0_0 := F19_z.out.cell0
    have q0_1 := F19_z.out.cell1
    have hb0_ := Below.refl U19.heap.size U19
    have hw0_ := B19_.out
    obtain ⟨N20, hNB⟩ : ∃ N20, N20 = U19.heap.size := ⟨_, rfl⟩
    obtain ⟨U20, hU⟩ : ∃ U20, U20 = U19.alloc (.cells #[.int .i64 0, .int .i64 0] 28) := ⟨_, rfl⟩
    have HU := Lib.hid (show U20 = _ ∧ N20 = _ from ⟨hU, hNB⟩)
    clear hU hNB
    go_upto_region 14 with fail
    clear q0_0 q0_1
    rw [← HU.out.2, ← HU.out.1]
    have hbU := hb0_.alloc hb0_.size (.cells #[.int .i64 0, .int .i64 0] 28)
    have hwU := hw0_.alloc hw0_.size (.cells #[.int .i64 0, .int .i64 0] 28)
    rw [← HU.out.1] at hbU hwU
    have F20_p := Lib.hid (F19_p.out.below hbU F19_p.out.lt)
    have F20_r := Lib.hid (F19_r.out.below hbU F19_r.out.lt)
    have F20_s := Lib.hid (F19_s.out.below hbU F19_s.out.lt)
    have F20_d := Lib.hid (F19_d.out.below hbU F19_d.out.lt)
    have F20_m := Lib.hid (F19_m.out.below hbU F19_m.out.lt)
    have F20_q := Lib.hid (F19_q.out.below hbU F19_q.out.lt)
    have F20_z := Lib.hid (F19_z.out.below hbU F19_z.out.lt)
    have F20_X := Lib.hid (F19_X.out.below hbU F19_X.out.lt)
    have F20_Y := Lib.hid (F19_Y.out.below hbU F19_Y.out.lt)
    have F20_ra := Lib.hid (F19_ra.out.below hbU F19_ra.out.lt)
    have F20_rs := Lib.hid (F19_rs.out.below hbU F19_rs.out.lt)
    have F20_rm := Lib.hid (F19_rm.out.below hbU F19_rm.out.lt)
    have O20_p := Lib.hid (show w.heap.size < N20 by rw [HU.out.2]; exact (F19_p.out.below hb0_ F19_p.out.lt).lt)
    have O20_r := Lib.hid (show (w.heap.size + 1) < N20 by rw [HU.out.2]; exact (F19_r.out.below hb0_ F19_r.out.lt).lt)
    have O20_s := Lib.hid (show N2 < N20 by rw [HU.out.2]; exact (F19_s.out.below hb0_ F19_s.out.lt).lt)
    have O20_d := Lib.hid (show N4 < N20 by rw [HU.out.2]; exact (F19_d.out.below hb0_ F19_d.out.lt).lt)
    have O20_m := Lib.hid (show N6 < N20 by rw [HU.out.2]; exact (F19_m.out.below hb0_ F19_m.out.lt).lt)
    have O20_q := Lib.hid (show N8 < N20 by rw [HU.out.2]; exact (F19_q.out.below hb0_ F19_q.out.lt).lt)
    have O20_z := Lib.hid (show N10 < N20 by rw [HU.out.2]; exact (F19_z.out.below hb0_ F19_z.out.lt).lt)
    have O20_X := Lib.hid (show B13_4 < N20 by rw [HU.out.2]; exact (F19_X.out.below hb0_ F19_X.out.lt).lt)
    have O20_Y := Lib.hid (show B13_5 < N20 by rw [HU.out.2]; exact (F19_Y.out.below hb0_ F19_Y.out.lt).lt)
    have O20_ra := Lib.hid (show N15 < N20 by rw [HU.out.2]; exact (F19_ra.out.below hb0_ F19_ra.out.lt).lt)
    have O20_rs := Lib.hid (show N17 < N20 by rw [HU.out.2]; exact (F19_rs.out.below hb0_ F19_rs.out.lt).lt)
    have O20_rm := Lib.hid (show N19 < N20 by rw [HU.out.2]; exact (F19_rm.out.below hb0_ F19_rm.out.lt).lt)
    have OW20 := Lib.hid (show w.heap.size ≤ N20 by rw [HU.out.2]; exact hw0_.size)
    have F20_rd := Lib.hid (show Two U20 N20 (.int .i64 0) (.int .i64 0) 28 by rw [HU.out.1, HU.out.2]; exact Two.newAt _ _ _ _ _ rfl)
    have X20_x := Lib.hid (X19_x.out.below hbU)
    have X20_y := Lib.hid (X19_y.out.below hbU)
    have OX20_x := Lib.hid (X19_x.out.below hb0_)
    have OX20_y := Lib.hid (X19_y.out.below hb0_)
    have OV20 := Lib.hid (show Below U19.heap.size U19 U20 by rw [HU.out.1]; exact (Below.refl _ _).alloc (Nat.le_refl _) _)
    have OE20 := Lib.hid (show U19.heap.size ≤ N20 by rw [HU.out.2]; exact Nat.le_refl _)
    have B20_ := Lib.hid hwU
    clear HU hbU hwU hb0_ hw0_ F19_p F19_r F19_s F19_d F19_m F19_q F19_z F19_X F19_Y F19_ra F19_rs F19_rm B19_ X19_x X19_y
    have q0_0 := F20_r.out.cell0
    have q0_1 := F20_r.out.cell1
    go_upto_region 16 with fail
    clear q0_0 q0_1
    have k0_0 := F20_s.out.cell0
    have k0_1 := F20_s.out.cell1
    have k1_0 := F20_d.out.cell0
    have k1_1 := F20_d.out.cell1
    have k2_0 := F20_m.out.cell0
    have k2_1 := F20_m.out.cell1
    have k3_0 := F20_q.out.cell0
    have k3_1 := F20_q.out.cell1
    have k4_0 := F20_ra.out.cell0
    have k4_1 := F20_ra.out.cell1
    have k5_0 := F20_rs.out.cell0
    have k5_1 := F20_rs.out.cell1
    have k6_0 := F20_rm.out.cell0
    have k6_1 := F20_rm.out.cell1
    have k7_0 := F20_rd.out.cell0
    have k7_1 := F20_rd.out.cell1
    have k8_0 := F20_X.out.cell0
    have k8_1 := F20_X.out.cell1
    have k8_2 := F20_X.out.cell2
    have k8_3 := F20_X.out.cell3
    have k9_0 := F20_Y.out.cell0
    have k9_1 := F20_Y.out.cell1
    have k9_2 := F20_Y.out.cell2
    have k9_3 := F20_Y.out.cell3
    have hb210 := Below.refl U20.heap.size U20
    have hw210 := B20_.out
    have cc := ci1 U20 hw210
    go_wp2_with fail
    refine cc.mono ?_
    rintro e V211 ⟨v211, rfl, hm211, hn211⟩
    have hb211 := hb210.trans (hn211.mono hb210.size)
    have hw211 := hw210.trans (hn211.mono hw210.size)
    subst hm211
    clear cc hb210 hw210 hn211
    clear k0_0 k0_1 k1_0 k1_1 k2_0 k2_1 k3_0 k3_1 k4_0 k4_1 k5_0 k5_1 k6_0 k6_1 k7_0 k7_1 k8_0 k8_1 k8_2 k8_3 k9_0 k9_1 k9_2 k9_3
    have k0_0 := (F20_s.out.below hb211 F20_s.out.lt).cell0
    have k0_1 := (F20_s.out.below hb211 F20_s.out.lt).cell1
    have k1_0 := (F20_d.out.below hb211 F20_d.out.lt).cell0
    have k1_1 := (F20_d.out.below hb211 F20_d.out.lt).cell1
    have k2_0 := (F20_m.out.below hb211 F20_m.out.lt).cell0
    have k2_1 := (F20_m.out.below hb211 F20_m.out.lt).cell1
    have k3_0 := (F20_q.out.below hb211 F20_q.out.lt).cell0
    have k3_1 := (F20_q.out.below hb211 F20_q.out.lt).cell1
    have k4_0 := (F20_ra.out.below hb211 F20_ra.out.lt).cell0
    have k4_1 := (F20_ra.out.below hb211 F20_ra.out.lt).cell1
    have k5_0 := (F20_rs.out.below hb211 F20_rs.out.lt).cell0
    have k5_1 := (F20_rs.out.below hb211 F20_rs.out.lt).cell1
    have k6_0 := (F20_rm.out.below hb211 F20_rm.out.lt).cell0
    have k6_1 := (F20_rm.out.below hb211 F20_rm.out.lt).cell1
    have k7_0 := (F20_rd.out.below hb211 F20_rd.out.lt).cell0
    have k7_1 := (F20_rd.out.below hb211 F20_rd.out.lt).cell1
    have k8_0 := (F20_X.out.below hb211 F20_X.out.lt).cell0
    have k8_1 := (F20_X.out.below hb211 F20_X.out.lt).cell1
    have k8_2 := (F20_X.out.below hb211 F20_X.out.lt).cell2
    have k8_3 := (F20_X.out.below hb211 F20_X.out.lt).cell3
    have k9_0 := (F20_Y.out.below hb211 F20_Y.out.lt).cell0
    have k9_1 := (F20_Y.out.below hb211 F20_Y.out.lt).cell1
    have k9_2 := (F20_Y.out.below hb211 F20_Y.out.lt).cell2
    have k9_3 := (F20_Y.out.below hb211 F20_Y.out.lt).cell3
    have cc := ci2 V211 hw211
    go_wp2_with fail
    refine cc.mono ?_
    rintro e V212 ⟨v212, rfl, hm212, hn212⟩
    have hb212 := hb211.trans (hn212.mono hb211.size)
    have hw212 := hw211.trans (hn212.mono hw211.size)
    subst hm212
    clear cc hb211 hw211 hn212
    clear k0_0 k0_1 k1_0 k1_1 k2_0 k2_1 k3_0 k3_1 k4_0 k4_1 k5_0 k5_1 k6_0 k6_1 k7_0 k7_1 k8_0 k8_1 k8_2 k8_3 k9_0 k9_1 k9_2 k9_3
    have k0_0 := (F20_s.out.below hb212 F20_s.out.lt).cell0
    have k0_1 := (F20_s.out.below hb212 F20_s.out.lt).cell1
    have k1_0 := (F20_d.out.below hb212 F20_d.out.lt).cell0
    have k1_1 := (F20_d.out.below hb212 F20_d.out.lt).cell1
    have k2_0 := (F20_m.out.below hb212 F20_m.out.lt).cell0
    have k2_1 := (F20_m.out.below hb212 F20_m.out.lt).cell1
    have k3_0 := (F20_q.out.below hb212 F20_q.out.lt).cell0
    have k3_1 := (F20_q.out.below hb212 F20_q.out.lt).cell1
    have k4_0 := (F20_ra.out.below hb212 F20_ra.out.lt).cell0
    have k4_1 := (F20_ra.out.below hb212 F20_ra.out.lt).cell1
    have k5_0 := (F20_rs.out.below hb212 F20_rs.out.lt).cell0
    have k5_1 := (F20_rs.out.below hb212 F20_rs.out.lt).cell1
    have k6_0 := (F20_rm.out.below hb212 F20_rm.out.lt).cell0
    have k6_1 := (F20_rm.out.below hb212 F20_rm.out.lt).cell1
    have k7_0 := (F20_rd.out.below hb212 F20_rd.out.lt).cell0
    have k7_1 := (F20_rd.out.below hb212 F20_rd.out.lt).cell1
    have k8_0 := (F20_X.out.below hb212 F20_X.out.lt).cell0
    have k8_1 := (F20_X.out.below hb212 F20_X.out.lt).cell1
    have k8_2 := (F20_X.out.below hb212 F20_X.out.lt).cell2
    have k8_3 := (F20_X.out.below hb212 F20_X.out.lt).cell3
    have k9_0 := (F20_Y.out.below hb212 F20_Y.out.lt).cell0
    have k9_1 := (F20_Y.out.below hb212 F20_Y.out.lt).cell1
    have k9_2 := (F20_Y.out.below hb212 F20_Y.out.lt).cell2
    have k9_3 := (F20_Y.out.below hb212 F20_Y.out.lt).cell3
    have cc := ci3 V212 hw212
    go_wp2_with fail
    refine cc.mono ?_
    rintro e V213 ⟨v213, rfl, hm213, hn213⟩
    have hb213 := hb212.trans (hn213.mono hb212.size)
    have hw213 := hw212.trans (hn213.mono hw212.size)
    subst hm213
    clear cc hb212 hw212 hn213
    clear k0_0 k0_1 k1_0 k1_1 k2_0 k2_1 k3_0 k3_1 k4_0 k4_1 k5_0 k5_1 k6_0 k6_1 k7_0 k7_1 k8_0 k8_1 k8_2 k8_3 k9_0 k9_1 k9_2 k9_3
    have k0_0 := (F20_s.out.below hb213 F20_s.out.lt).cell0
    have k0_1 := (F20_s.out.below hb213 F20_s.out.lt).cell1
    have k1_0 := (F20_d.out.below hb213 F20_d.out.lt).cell0
    have k1_1 := (F20_d.out.below hb213 F20_d.out.lt).cell1
    have k2_0 := (F20_m.out.below hb213 F20_m.out.lt).cell0
    have k2_1 := (F20_m.out.below hb213 F20_m.out.lt).cell1
    have k3_0 := (F20_q.out.below hb213 F20_q.out.lt).cell0
    have k3_1 := (F20_q.out.below hb213 F20_q.out.lt).cell1
    have k4_0 := (F20_ra.out.below hb213 F20_ra.out.lt).cell0
    have k4_1 := (F20_ra.out.below hb213 F20_ra.out.lt).cell1
    have k5_0 := (F20_rs.out.below hb213 F20_rs.out.lt).cell0
    have k5_1 := (F20_rs.out.below hb213 F20_rs.out.lt).cell1
    have k6_0 := (F20_rm.out.below hb213 F20_rm.out.lt).cell0
    have k6_1 := (F20_rm.out.below hb213 F20_rm.out.lt).cell1
    have k7_0 := (F20_rd.out.below hb213 F20_rd.out.lt).cell0
    have k7_1 := (F20_rd.out.below hb213 F20_rd.out.lt).cell1
    have k8_0 := (F20_X.out.below hb213 F20_X.out.lt).cell0
    have k8_1 := (F20_X.out.below hb213 F20_X.out.lt).cell1
    have k8_2 := (F20_X.out.below hb213 F20_X.out.lt).cell2
    have k8_3 := (F20_X.out.below hb213 F20_X.out.lt).cell3
    have k9_0 := (F20_Y.out.below hb213 F20_Y.out.lt).cell0
    have k9_1 := (F20_Y.out.below hb213 F20_Y.out.lt).cell1
    have k9_2 := (F20_Y.out.below hb213 F20_Y.out.lt).cell2
    have k9_3 := (F20_Y.out.below hb213 F20_Y.out.lt).cell3
    have cc := ci4 V213 hw213
    go_wp2_with fail
    refine cc.mono ?_
    rintro e V214 ⟨v214, rfl, hm214, hn214⟩
    have hb214 := hb213.trans (hn214.mono hb213.size)
    have hw214 := hw213.trans (hn214.mono hw213.size)
    subst hm214
    clear cc hb213 hw213 hn214
    clear k0_0 k0_1 k1_0 k1_1 k2_0 k2_1 k3_0 k3_1 k4_0 k4_1 k5_0 k5_1 k6_0 k6_1 k7_0 k7_1 k8_0 k8_1 k8_2 k8_3 k9_0 k9_1 k9_2 k9_3
    have k0_0 := (F20_s.out.below hb214 F20_s.out.lt).cell0
    have k0_1 := (F20_s.out.below hb214 F20_s.out.lt).cell1
    have k1_0 := (F20_d.out.below hb214 F20_d.out.lt).cell0
    have k1_1 := (F20_d.out.below hb214 F20_d.out.lt).cell1
    have k2_0 := (F20_m.out.below hb214 F20_m.out.lt).cell0
    have k2_1 := (F20_m.out.below hb214 F20_m.out.lt).cell1
    have k3_0 := (F20_q.out.below hb214 F20_q.out.lt).cell0
    have k3_1 := (F20_q.out.below hb214 F20_q.out.lt).cell1
    have k4_0 := (F20_ra.out.below hb214 F20_ra.out.lt).cell0
    have k4_1 := (F20_ra.out.below hb214 F20_ra.out.lt).cell1
    have k5_0 := (F20_rs.out.below hb214 F20_rs.out.lt).cell0
    have k5_1 := (F20_rs.out.below hb214 F20_rs.out.lt).cell1
    have k6_0 := (F20_rm.out.below hb214 F20_rm.out.lt).cell0
    have k6_1 := (F20_rm.out.below hb214 F20_rm.out.lt).cell1
    have k7_0 := (F20_rd.out.below hb214 F20_rd.out.lt).cell0
    have k7_1 := (F20_rd.out.below hb214 F20_rd.out.lt).cell1
    have k8_0 := (F20_X.out.below hb214 F20_X.out.lt).cell0
    have k8_1 := (F20_X.out.below hb214 F20_X.out.lt).cell1
    have k8_2 := (F20_X.out.below hb214 F20_X.out.lt).cell2
    have k8_3 := (F20_X.out.below hb214 F20_X.out.lt).cell3
    have k9_0 := (F20_Y.out.below hb214 F20_Y.out.lt).cell0
    have k9_1 := (F20_Y.out.below hb214 F20_Y.out.lt).cell1
    have k9_2 := (F20_Y.out.below hb214 F20_Y.out.lt).cell2
    have k9_3 := (F20_Y.out.below hb214 F20_Y.out.lt).cell3
    have cc := ccm V214 hw214 _ _ (X20_x.out.below hb214) (X20_y.out.below hb214)
    go_wp2_with fail
    refine cc.mono ?_
    rintro e V215 ⟨v215, rfl, hm215, hn215⟩
    have hb215 := hb214.trans (hn215.mono hb214.size)
    have hw215 := hw214.trans (hn215.mono hw214.size)
    subst hm215
    clear cc hb214 hw214 hn215
    clear k0_0 k0_1 k1_0 k1_1 k2_0 k2_1 k3_0 k3_1 k4_0 k4_1 k5_0 k5_1 k6_0 k6_1 k7_0 k7_1 k8_0 k8_1 k8_2 k8_3 k9_0 k9_1 k9_2 k9_3
    have k0_0 := (F20_s.out.below hb215 F20_s.out.lt).cell0
    have k0_1 := (F20_s.out.below hb215 F20_s.out.lt).cell1
    have k1_0 := (F20_d.out.below hb215 F20_d.out.lt).cell0
    have k1_1 := (F20_d.out.below hb215 F20_d.out.lt).cell1
    have k2_0 := (F20_m.out.below hb215 F20_m.out.lt).cell0
    have k2_1 := (F20_m.out.below hb215 F20_m.out.lt).cell1
    have k3_0 := (F20_q.out.below hb215 F20_q.out.lt).cell0
    have k3_1 := (F20_q.out.below hb215 F20_q.out.lt).cell1
    have k4_0 := (F20_ra.out.below hb215 F20_ra.out.lt).cell0
    have k4_1 := (F20_ra.out.below hb215 F20_ra.out.lt).cell1
    have k5_0 := (F20_rs.out.below hb215 F20_rs.out.lt).cell0
    have k5_1 := (F20_rs.out.below hb215 F20_rs.out.lt).cell1
    have k6_0 := (F20_rm.out.below hb215 F20_rm.out.lt).cell0
    have k6_1 := (F20_rm.out.below hb215 F20_rm.out.lt).cell1
    have k7_0 := (F20_rd.out.below hb215 F20_rd.out.lt).cell0
    have k7_1 := (F20_rd.out.below hb215 F20_rd.out.lt).cell1
    have k8_0 := (F20_X.out.below hb215 F20_X.out.lt).cell0
    have k8_1 := (F20_X.out.below hb215 F20_X.out.lt).cell1
    have k8_2 := (F20_X.out.below hb215 F20_X.out.lt).cell2
    have k8_3 := (F20_X.out.below hb215 F20_X.out.lt).cell3
    have k9_0 := (F20_Y.out.below hb215 F20_Y.out.lt).cell0
    have k9_1 := (F20_Y.out.below hb215 F20_Y.out.lt).cell1
    have k9_2 := (F20_Y.out.below hb215 F20_Y.out.lt).cell2
    have k9_3 := (F20_Y.out.below hb215 F20_Y.out.lt).cell3
    have cc := cl V215 hw215
    go_wp2_with fail
    refine cc.mono ?_
    rintro e V216 ⟨v216, rfl, hm216, hn216⟩
    have hb216 := hb215.trans (hn216.mono hb215.size)
    have hw216 := hw215.trans (hn216.mono hw215.size)
    subst hm216
    clear cc hb215 hw215 hn216
    clear k0_0 k0_1 k1_0 k1_1 k2_0 k2_1 k3_0 k3_1 k4_0 k4_1 k5_0 k5_1 k6_0 k6_1 k7_0 k7_1 k8_0 k8_1 k8_2 k8_3 k9_0 k9_1 k9_2 k9_3
    have k0_0 := (F20_s.out.below hb216 F20_s.out.lt).cell0
    have k0_1 := (F20_s.out.below hb216 F20_s.out.lt).cell1
    have k1_0 := (F20_d.out.below hb216 F20_d.out.lt).cell0
    have k1_1 := (F20_d.out.below hb216 F20_d.out.lt).cell1
    have k2_0 := (F20_m.out.below hb216 F20_m.out.lt).cell0
    have k2_1 := (F20_m.out.below hb216 F20_m.out.lt).cell1
    have k3_0 := (F20_q.out.below hb216 F20_q.out.lt).cell0
    have k3_1 := (F20_q.out.below hb216 F20_q.out.lt).cell1
    have k4_0 := (F20_ra.out.below hb216 F20_ra.out.lt).cell0
    have k4_1 := (F20_ra.out.below hb216 F20_ra.out.lt).cell1
    have k5_0 := (F20_rs.out.below hb216 F20_rs.out.lt).cell0
    have k5_1 := (F20_rs.out.below hb216 F20_rs.out.lt).cell1
    have k6_0 := (F20_rm.out.below hb216 F20_rm.out.lt).cell0
    have k6_1 := (F20_rm.out.below hb216 F20_rm.out.lt).cell1
    have k7_0 := (F20_rd.out.below hb216 F20_rd.out.lt).cell0
    have k7_1 := (F20_rd.out.below hb216 F20_rd.out.lt).cell1
    have k8_0 := (F20_X.out.below hb216 F20_X.out.lt).cell0
    have k8_1 := (F20_X.out.below hb216 F20_X.out.lt).cell1
    have k8_2 := (F20_X.out.below hb216 F20_X.out.lt).cell2
    have k8_3 := (F20_X.out.below hb216 F20_X.out.lt).cell3
    have k9_0 := (F20_Y.out.below hb216 F20_Y.out.lt).cell0
    have k9_1 := (F20_Y.out.below hb216 F20_Y.out.lt).cell1
    have k9_2 := (F20_Y.out.below hb216 F20_Y.out.lt).cell2
    have k9_3 := (F20_Y.out.below hb216 F20_Y.out.lt).cell3
    have HE := Lib.hid hw216
    clear hb216 hw216
    go_wp2
    go_ret
    exact ⟨rfl, HE.out⟩

set_option maxRecDepth 100000 in
set_option maxHeartbeats 12800000 in
theorem adds_good1 (p q r s : Int) (w : World) (h1 : FOk (p, q)) (h2 : FOk (r, s)) (h0 : 0 < r) :
    Calls Tryz.prog 7 #[.agg #[.int .i64 p, .int .i64 q], .agg #[.int .i64 r, .int .i64 s]] w (RetV (.bool true) w) := by
  obtain ⟨sn, sd, se, hv1⟩ := lowV_form (p * s + r * q) (q * s)
  obtain ⟨dn, dd, de, hv2⟩ := lowV_form (p * s - r * q) (q * s)
  obtain ⟨mn, md, me, hv3⟩ := lowV_form (p * r) (q * s)
  obtain ⟨qn, qd, qe, hv4⟩ : ∃ n d e : Int, lowV (p * s) (q * r) = .tuple #[.agg #[.int .i64 n, .int .i64 d], .int .i64 e] := lowV_form _ _
  obtain ⟨sg, hsg⟩ : ∃ sg, sg = sgn (p * s - r * q) := ⟨_, rfl⟩
  have q0 : 0 < q := by have := h1.1; simp at this; omega
  have s0 : 0 < s := by have := h2.1; simp at this; omega
  have qs0 : 0 < q * s := Int.mul_pos q0 s0
  have i1 := i64_lowf h1
  have i2 := i64_lowf h2
  have qr0 : 0 < q * r := Int.mul_pos q0 h0
  have c1 : ∀ W (_ : Below w.heap.size w W), Calls Tryz.prog 36 #[.agg #[.int .i64 p, .int .i64 q], .agg #[.int .i64 r, .int .i64 s]] W (RetW (.tuple #[.agg #[.int .i64 sn, .int .i64 sd], .int .i64 se]) W) := fun W _ => by
    rw [← hv1]
    exact (gadd_ok p q r s W i1.1 i1.2 i2.1 i2.2 h1 h2).mono fun e w' h => RetW.of h
  have c2 : ∀ W (_ : Below w.heap.size w W), Calls Tryz.prog 34 #[.agg #[.int .i64 p, .int .i64 q], .agg #[.int .i64 r, .int .i64 s]] W (RetW (.tuple #[.agg #[.int .i64 dn, .int .i64 dd], .int .i64 de]) W) := fun W _ => by
    rw [← hv2]
    exact (gsub_ok p q r s W h1 h2).mono fun e w' h => RetW.of h
  have c3 : ∀ W (_ : Below w.heap.size w W), Calls Tryz.prog 37 #[.agg #[.int .i64 p, .int .i64 q], .agg #[.int .i64 r, .int .i64 s]] W (RetW (.tuple #[.agg #[.int .i64 mn, .int .i64 md], .int .i64 me]) W) := fun W _ => by
    rw [← hv3]
    exact (gmul_ok p q r s W i1.1 i1.2 i2.1 i2.2 h1 h2).mono fun e w' h => RetW.of h
  have c4 : ∀ W (_ : Below w.heap.size w W), Calls Tryz.prog 35 #[.agg #[.int .i64 p, .int .i64 q], .agg #[.int .i64 r, .int .i64 s]] W (RetW (.tuple #[.agg #[.int .i64 qn, .int .i64 qd], .int .i64 qe]) W) := fun W _ => by
    rw [← hv4]
    exact (gdiv_pos p q r s W h1 h2 h0).mono fun e w' h => RetW.of h
  have c5 : ∀ W (_ : Below w.heap.size w W), Calls Tryz.prog 38 #[.agg #[.int .i64 p, .int .i64 q], .agg #[.int .i64 r, .int .i64 s]] W (RetW (.tuple #[.int .i64 sg, .int .i64 0]) W) := fun W _ => by
    rw [← (show sgn (p * s - r * q) = sg from hsg.symm)]
    exact (gcmp_ok p q r s W i1.1 i1.2 i2.1 i2.2 h1 h2).mono fun e w' h => RetW.of h
  have cv1 := valid_y p q true (decide_eq_true h1) (w := w)
  have cv2 := valid_y r s true (decide_eq_true h2) (w := w)
  have co1 : ∀ W (_ : Below w.heap.size w W), Calls Tryz.prog 22 #[.agg #[.int .i64 p, .int .i64 q]] W (RetRQ p q 5 W) := fun W _ => of_any' p q W i1.1 i1.2
  have co2 : ∀ W (_ : Below w.heap.size w W), Calls Tryz.prog 22 #[.agg #[.int .i64 r, .int .i64 s]] W (RetRQ r s 5 W) := fun W _ => of_any' r s W i2.1 i2.2
  have cqa : ∀ W (_ : Below w.heap.size w W) u v, IsRQ W u p q 5 → IsRQ W v r s 5 → Calls Tryz.prog 39 #[u, v] W (RetRQ (p * s + r * q) (q * s) 12 W) := fun W _ u v g1 g2 => raddq_any g1 g2 (by omega) (by omega)
  have cfa : ∀ W (_ : Below w.heap.size w W) u, IsRQ W u (p * s + r * q) (q * s) 12 → Calls Tryz.prog 16 #[u] W (RetW (.tuple #[.agg #[.int .i64 sn, .int .i64 sd], .int .i64 se]) W) := fun W _ u g => by
    have := rfrac_any g (by omega) qs0
    rw [hv1] at this
    exact this.mono fun e w' h => RetW.of h
  have cqs : ∀ W (_ : Below w.heap.size w W) u v, IsRQ W u p q 5 → IsRQ W v r s 5 → Calls Tryz.prog 40 #[u, v] W (RetRQ (p * s - r * q) (q * s) 12 W) := fun W _ u v g1 g2 => rsubq_any g1 g2 (by omega) (by omega)
  have cfs : ∀ W (_ : Below w.heap.size w W) u, IsRQ W u (p * s - r * q) (q * s) 12 → Calls Tryz.prog 16 #[u] W (RetW (.tuple #[.agg #[.int .i64 dn, .int .i64 dd], .int .i64 de]) W) := fun W _ u g => by
    have := rfrac_any g (by omega) qs0
    rw [hv2] at this
    exact this.mono fun e w' h => RetW.of h
  have cqm : ∀ W (_ : Below w.heap.size w W) u v, IsRQ W u p q 5 → IsRQ W v r s 5 → Calls Tryz.prog 41 #[u, v] W (RetRQ (p * r) (q * s) 11 W) := fun W _ u v g1 g2 => rmulq_any g1 g2 (by omega) (by omega)
  have cfm : ∀ W (_ : Below w.heap.size w W) u, IsRQ W u (p * r) (q * s) 11 → Calls Tryz.prog 16 #[u] W (RetW (.tuple #[.agg #[.int .i64 mn, .int .i64 md], .int .i64 me]) W) := fun W _ u g => by
    have := rfrac_any g (by omega) qs0
    rw [hv3] at this
    exact this.mono fun e w' h => RetW.of h
  have cqd : ∀ W (_ : Below w.heap.size w W) u v, IsRQ W u p q 5 → IsRQ W v r s 5 → Calls Tryz.prog 42 #[u, v] W (RetRQ (p * s) (q * r) 11 W) := fun W _ u v g1 g2 => rdiv_pos g1 g2 (by omega) (by omega) qr0
  have cfd : ∀ W (_ : Below w.heap.size w W) u, IsRQ W u (p * s) (q * r) 11 → Calls Tryz.prog 16 #[u] W (RetW (.tuple #[.agg #[.int .i64 qn, .int .i64 qd], .int .i64 qe]) W) := fun W _ u g => by
    have := rfrac_any g (by omega) qr0
    rw [hv4] at this
    exact this.mono fun e w' h => RetW.of h
  have ccm : ∀ W (_ : Below w.heap.size w W) u v, IsRQ W u p q 5 → IsRQ W v r s 5 → Calls Tryz.prog 21 #[u, v] W (RetW (.int .i64 sg) W) := fun W _ u v g1 g2 => by
    rw [hsg]
    exact (rcmpq_any g1 g2 (by omega) (by omega)).mono fun e w' h => RetW.of h
  have ci1 := is_w sn sd se (w := w)
  have ci2 := is_w dn dd de (w := w)
  have ci3 := is_w mn md me (w := w)
  have ci4 := is_w qn qd qe (w := w)
  have cl := lives_y (w := w)
  have hr0 : ¬ r = 0 := by omega
  have hr1 : (r != 0) = true := by simpa using hr0
  clear h1 h2 hv1 hv2 hv3 q0 s0 qs0 i1 i2 hsg hv4 qr0 h0
  obtain ⟨W3, hW3⟩ : ∃ W3, W3 = ((w.alloc (.cells #[.int .i64 p, .int .i64 q] 28)).alloc (.cells #[.int .i64 r, .int .i64 s] 28)) := ⟨_, rfl⟩
  have hB : Below w.heap.size w W3 := by rw [hW3]; exact (((Below.refl _ _).alloc (Nat.le_refl _) _).alloc (by simp; try omega) _)
  have HBW := Lib.hid hB
  have HF := Lib.hid (show Two W3 (w.heap.size) (.int .i64 p) (.int .i64 q) 28 by rw [hW3]; exact (((Two.newAt _ _ _ _ _ (by simp))).alloc _))
  have HG := Lib.hid (show Two W3 (w.heap.size + 1) (.int .i64 r) (.int .i64 s) 28 by rw [hW3]; exact (Two.newAt _ _ _ _ _ (by simp)))
  clear hB
  go_enter Tryz.func7, Tryz.ntmps7
  go_upto_region 1 with fail
  rw [← hW3]
  clear hW3
  have k0_0 := HF.out.cell0
  have k0_1 := HF.out.cell1
  have k1_0 := HG.out.cell0
  have k1_1 := HG.out.cell1
  have hb10 := Below.refl W3.heap.size W3
  have hw10 := HBW.out
  have cc := c1 W3 hw10
  go_wp2_with fail
  refine cc.mono ?_
  rintro e V11 ⟨v11, rfl, hm11, hn11⟩
  have hb11 := hb10.trans (hn11.mono hb10.size)
  have hw11 := hw10.trans (hn11.mono hw10.size)
  subst hm11
  clear cc hb10 hw10 hn11
  clear k0_0 k0_1 k1_0 k1_1
  have k0_0 := (HF.out.below hb11 HF.out.lt).cell0
  have k0_1 := (HF.out.below hb11 HF.out.lt).cell1
  have k1_0 := (HG.out.below hb11 HG.out.lt).cell0
  have k1_1 := (HG.out.below hb11 HG.out.lt).cell1
  obtain ⟨N2, hNB⟩ : ∃ N2, N2 = V11.heap.size := ⟨_, rfl⟩
  obtain ⟨U2, hU⟩ : ∃ U2, U2 = V11.alloc (.cells #[.int .i64 sn, .int .i64 sd] 28) := ⟨_, rfl⟩
  have HU := Lib.hid (show U2 = _ ∧ N2 = _ from ⟨hU, hNB⟩)
  clear hU hNB
  go_upto_region 2 with fail
  clear k0_0 k0_1 k1_0 k1_1
  rw [← HU.out.2, ← HU.out.1]
  have hbU := hb11.alloc hb11.size (.cells #[.int .i64 sn, .int .i64 sd] 28)
  have hwU := hw11.alloc hw11.size (.cells #[.int .i64 sn, .int .i64 sd] 28)
  rw [← HU.out.1] at hbU hwU
  have F2_p := Lib.hid (HF.out.below hbU HF.out.lt)
  have F2_r := Lib.hid (HG.out.below hbU HG.out.lt)
  have F2_s := Lib.hid (show Two U2 N2 (.int .i64 sn) (.int .i64 sd) 28 by rw [HU.out.1, HU.out.2]; exact Two.newAt _ _ _ _ _ rfl)
  have B2_ := Lib.hid hwU
  clear HU hbU hwU hb11 hw11 HF HG HBW
  have k0_0 := F2_p.out.cell0
  have k0_1 := F2_p.out.cell1
  have k1_0 := F2_r.out.cell0
  have k1_1 := F2_r.out.cell1
  have hb30 := Below.refl U2.heap.size U2
  have hw30 := B2_.out
  have cc := c2 U2 hw30
  go_wp2_with fail
  refine cc.mono ?_
  rintro e V31 ⟨v31, rfl, hm31, hn31⟩
  have hb31 := hb30.trans (hn31.mono hb30.size)
  have hw31 := hw30.trans (hn31.mono hw30.size)
  subst hm31
  clear cc hb30 hw30 hn31
  clear k0_0 k0_1 k1_0 k1_1
  have k0_0 := (F2_p.out.below hb31 F2_p.out.lt).cell0
  have k0_1 := (F2_p.out.below hb31 F2_p.out.lt).cell1
  have k1_0 := (F2_r.out.below hb31 F2_r.out.lt).cell0
  have k1_1 := (F2_r.out.below hb31 F2_r.out.lt).cell1
  obtain ⟨N4, hNB⟩ : ∃ N4, N4 = V31.heap.size := ⟨_, rfl⟩
  obtain ⟨U4, hU⟩ : ∃ U4, U4 = V31.alloc (.cells #[.int .i64 dn, .int .i64 dd] 28) := ⟨_, rfl⟩
  have HU := Lib.hid (show U4 = _ ∧ N4 = _ from ⟨hU, hNB⟩)
  clear hU hNB
  go_upto_region 3 with fail
  clear k0_0 k0_1 k1_0 k1_1
  rw [← HU.out.2, ← HU.out.1]
  have hbU := hb31.alloc hb31.size (.cells #[.int .i64 dn, .int .i64 dd] 28)
  have hwU := hw31.alloc hw31.size (.cells #[.int .i64 dn, .int .i64 dd] 28)
  rw [← HU.out.1] at hbU hwU
  have F4_p := Lib.hid (F2_p.out.below hbU F2_p.out.lt)
  have F4_r := Lib.hid (F2_r.out.below hbU F2_r.out.lt)
  have F4_s := Lib.hid (F2_s.out.below hbU F2_s.out.lt)
  have F4_d := Lib.hid (show Two U4 N4 (.int .i64 dn) (.int .i64 dd) 28 by rw [HU.out.1, HU.out.2]; exact Two.newAt _ _ _ _ _ rfl)
  have B4_ := Lib.hid hwU
  clear HU hbU hwU hb31 hw31 F2_p F2_r F2_s B2_
  have k0_0 := F4_p.out.cell0
  have k0_1 := F4_p.out.cell1
  have k1_0 := F4_r.out.cell0
  have k1_1 := F4_r.out.cell1
  have hb50 := Below.refl U4.heap.size U4
  have hw50 := B4_.out
  have cc := c3 U4 hw50
  go_wp2_with fail
  refine cc.mono ?_
  rintro e V51 ⟨v51, rfl, hm51, hn51⟩
  have hb51 := hb50.trans (hn51.mono hb50.size)
  have hw51 := hw50.trans (hn51.mono hw50.size)
  subst hm51
  clear cc hb50 hw50 hn51
  clear k0_0 k0_1 k1_0 k1_1
  have k0_0 := (F4_p.out.below hb51 F4_p.out.lt).cell0
  have k0_1 := (F4_p.out.below hb51 F4_p.out.lt).cell1
  have k1_0 := (F4_r.out.below hb51 F4_r.out.lt).cell0
  have k1_1 := (F4_r.out.below hb51 F4_r.out.lt).cell1
  obtain ⟨N6, hNB⟩ : ∃ N6, N6 = V51.heap.size := ⟨_, rfl⟩
  obtain ⟨U6, hU⟩ : ∃ U6, U6 = V51.alloc (.cells #[.int .i64 mn, .int .i64 md] 28) := ⟨_, rfl⟩
  have HU := Lib.hid (show U6 = _ ∧ N6 = _ from ⟨hU, hNB⟩)
  clear hU hNB
  go_upto_region 4 with fail
  clear k0_0 k0_1 k1_0 k1_1
  rw [← HU.out.2, ← HU.out.1]
  have hbU := hb51.alloc hb51.size (.cells #[.int .i64 mn, .int .i64 md] 28)
  have hwU := hw51.alloc hw51.size (.cells #[.int .i64 mn, .int .i64 md] 28)
  rw [← HU.out.1] at hbU hwU
  have F6_p := Lib.hid (F4_p.out.below hbU F4_p.out.lt)
  have F6_r := Lib.hid (F4_r.out.below hbU F4_r.out.lt)
  have F6_s := Lib.hid (F4_s.out.below hbU F4_s.out.lt)
  have F6_d := Lib.hid (F4_d.out.below hbU F4_d.out.lt)
  have F6_m := Lib.hid (show Two U6 N6 (.int .i64 mn) (.int .i64 md) 28 by rw [HU.out.1, HU.out.2]; exact Two.newAt _ _ _ _ _ rfl)
  have B6_ := Lib.hid hwU
  clear HU hbU hwU hb51 hw51 F4_p F4_r F4_s F4_d B4_
  have k0_0 := F6_p.out.cell0
  have k0_1 := F6_p.out.cell1
  have k1_0 := F6_r.out.cell0
  have k1_1 := F6_r.out.cell1
  have hb70 := Below.refl U6.heap.size U6
  have hw70 := B6_.out
  have cc := c4 U6 hw70
  go_wp2_with fail
  refine cc.mono ?_
  rintro e V71 ⟨v71, rfl, hm71, hn71⟩
  have hb71 := hb70.trans (hn71.mono hb70.size)
  have hw71 := hw70.trans (hn71.mono hw70.size)
  subst hm71
  clear cc hb70 hw70 hn71
  clear k0_0 k0_1 k1_0 k1_1
  have k0_0 := (F6_p.out.below hb71 F6_p.out.lt).cell0
  have k0_1 := (F6_p.out.below hb71 F6_p.out.lt).cell1
  have k1_0 := (F6_r.out.below hb71 F6_r.out.lt).cell0
  have k1_1 := (F6_r.out.below hb71 F6_r.out.lt).cell1
  obtain ⟨N8, hNB⟩ : ∃ N8, N8 = V71.heap.size := ⟨_, rfl⟩
  obtain ⟨U8, hU⟩ : ∃ U8, U8 = V71.alloc (.cells #[.int .i64 qn, .int .i64 qd] 28) := ⟨_, rfl⟩
  have HU := Lib.hid (show U8 = _ ∧ N8 = _ from ⟨hU, hNB⟩)
  clear hU hNB
  go_upto_region 5 with fail
  clear k0_0 k0_1 k1_0 k1_1
  rw [← HU.out.2, ← HU.out.1]
  have hbU := hb71.alloc hb71.size (.cells #[.int .i64 qn, .int .i64 qd] 28)
  have hwU := hw71.alloc hw71.size (.cells #[.int .i64 qn, .int .i64 qd] 28)
  rw [← HU.out.1] at hbU hwU
  have F8_p := Lib.hid (F6_p.out.below hbU F6_p.out.lt)
  have F8_r := Lib.hid (F6_r.out.below hbU F6_r.out.lt)
  have F8_s := Lib.hid (F6_s.out.below hbU F6_s.out.lt)
  have F8_d := Lib.hid (F6_d.out.below hbU F6_d.out.lt)
  have F8_m := Lib.hid (F6_m.out.below hbU F6_m.out.lt)
  have F8_q := Lib.hid (show Two U8 N8 (.int .i64 qn) (.int .i64 qd) 28 by rw [HU.out.1, HU.out.2]; exact Two.newAt _ _ _ _ _ rfl)
  have B8_ := Lib.hid hwU
  clear HU hbU hwU hb71 hw71 F6_p F6_r F6_s F6_d F6_m B6_
  have k0_0 := F8_p.out.cell0
  have k0_1 := F8_p.out.cell1
  have k1_0 := F8_r.out.cell0
  have k1_1 := F8_r.out.cell1
  have hb90 := Below.refl U8.heap.size U8
  have hw90 := B8_.out
  have cc := c5 U8 hw90
  go_wp2_with fail
  refine cc.mono ?_
  rintro e V91 ⟨v91, rfl, hm91, hn91⟩
  have hb91 := hb90.trans (hn91.mono hb90.size)
  have hw91 := hw90.trans (hn91.mono hw90.size)
  subst hm91
  clear cc hb90 hw90 hn91
  clear k0_0 k0_1 k1_0 k1_1
  have k0_0 := (F8_p.out.below hb91 F8_p.out.lt).cell0
  have k0_1 := (F8_p.out.below hb91 F8_p.out.lt).cell1
  have k1_0 := (F8_r.out.below hb91 F8_r.out.lt).cell0
  have k1_1 := (F8_r.out.below hb91 F8_r.out.lt).cell1
  go_upto_region 6 with fail
  obtain ⟨N10, hNB⟩ : ∃ N10, N10 = V91.heap.size := ⟨_, rfl⟩
  obtain ⟨U10, hU⟩ : ∃ U10, U10 = V91.alloc (.cells #[.int .i64 0, .int .i64 0] 28) := ⟨_, rfl⟩
  have HU := Lib.hid (show U10 = _ ∧ N10 = _ from ⟨hU, hNB⟩)
  clear hU hNB
  go_upto_region 7 with fail
  clear k0_0 k0_1 k1_0 k1_1
  rw [← HU.out.2, ← HU.out.1]
  have hbU := hb91.alloc hb91.size (.cells #[.int .i64 0, .int .i64 0] 28)
  have hwU := hw91.alloc hw91.size (.cells #[.int .i64 0, .int .i64 0] 28)
  rw [← HU.out.1] at hbU hwU
  have F10_p := Lib.hid (F8_p.out.below hbU F8_p.out.lt)
  have F10_r := Lib.hid (F8_r.out.below hbU F8_r.out.lt)
  have F10_s := Lib.hid (F8_s.out.below hbU F8_s.out.lt)
  have F10_d := Lib.hid (F8_d.out.below hbU F8_d.out.lt)
  have F10_m := Lib.hid (F8_m.out.below hbU F8_m.out.lt)
  have F10_q := Lib.hid (F8_q.out.below hbU F8_q.out.lt)
  have F10_z := Lib.hid (show Two U10 N10 (.int .i64 0) (.int .i64 0) 28 by rw [HU.out.1, HU.out.2]; exact Two.newAt _ _ _ _ _ rfl)
  have B10_ := Lib.hid hwU
  clear HU hbU hwU hb91 hw91 F8_p F8_r F8_s F8_d F8_m F8_q B8_
  have k0_0 := F10_p.out.cell0
  have k0_1 := F10_p.out.cell1
  have k1_0 := F10_r.out.cell0
  have k1_1 := F10_r.out.cell1
  have hb110 := Below.refl U10.heap.size U10
  have hw110 := B10_.out
  have cc := cv1 U10 hw110
  go_wp2_with fail
  refine cc.mono ?_
  rintro e V111 ⟨v111, rfl, hm111, hn111⟩
  have hb111 := hb110.trans (hn111.mono hb110.size)
  have hw111 := hw110.trans (hn111.mono hw110.size)
  subst hm111
  clear cc hb110 hw110 hn111
  clear k0_0 k0_1 k1_0 k1_1
  have k0_0 := (F10_p.out.below hb111 F10_p.out.lt).cell0
  have k0_1 := (F10_p.out.below hb111 F10_p.out.lt).cell1
  have k1_0 := (F10_r.out.below hb111 F10_r.out.lt).cell0
  have k1_1 := (F10_r.out.below hb111 F10_r.out.lt).cell1
  have cc := cv2 V111 hw111
  go_wp2_with fail
  refine cc.mono ?_
  rintro e V112 ⟨v112, rfl, hm112, hn112⟩
  have hb112 := hb111.trans (hn112.mono hb111.size)
  have hw112 := hw111.trans (hn112.mono hw111.size)
  subst hm112
  clear cc hb111 hw111 hn112
  clear k0_0 k0_1 k1_0 k1_1
  have k0_0 := (F10_p.out.below hb112 F10_p.out.lt).cell0
  have k0_1 := (F10_p.out.below hb112 F10_p.out.lt).cell1
  have k1_0 := (F10_r.out.below hb112 F10_r.out.lt).cell0
  have k1_1 := (F10_r.out.below hb112 F10_r.out.lt).cell1
  clear k0_0 k0_1 k1_0 k1_1
  have F12_p := Lib.hid (F10_p.out.below hb112 F10_p.out.lt)
  have F12_r := Lib.hid (F10_r.out.below hb112 F10_r.out.lt)
  have F12_s := Lib.hid (F10_s.out.below hb112 F10_s.out.lt)
  have F12_d := Lib.hid (F10_d.out.below hb112 F10_d.out.lt)
  have F12_m := Lib.hid (F10_m.out.below hb112 F10_m.out.lt)
  have F12_q := Lib.hid (F10_q.out.below hb112 F10_q.out.lt)
  have F12_z := Lib.hid (F10_z.out.below hb112 F10_z.out.lt)
  have B12_ := Lib.hid hw112
  clear hb112 hw112 F10_p F10_r F10_s F10_d F10_m F10_q F10_z B10_
  clear c1 c2 c3 c4 c5 cv1 cv2
  go_upto_region 9 with fail
  refine Lex.wp_region_mix (fun w' => Two w' w.heap.size (.int .i64 p) (.int .i64 q) 28 ∧ Two w' (w.heap.size + 1) (.int .i64 r) (.int .i64 s) 28)
    [(0, 98), (1, 99), (2, 100), (3, 101), (4, 16), (5, 17)] (fun j => j == 0 || j == 2) (fun j => j == 4 || j == 5) [(6, false), (7, false)]
    (fun i v w' => match i with | 0 => v = .agg #[.int .i64 p, .int .i64 q] | 1 => IsRQ w' v p q 5 | 2 => v = .agg #[.int .i64 r, .int .i64 s] | 3 => IsRQ w' v r s 5 | 4 => ∃ B, v = .pointer (some ⟨B, 0, none⟩) ∧ V112.heap.size ≤ B ∧ Four w' B (.bool false) (.slice none 0 0) (.bool false) (.slice none 0 0) 40 | 5 => ∃ B, v = .pointer (some ⟨B, 0, none⟩) ∧ V112.heap.size ≤ B ∧ Four w' B (.bool false) (.slice none 0 0) (.bool false) (.slice none 0 0) 40 | _ => False)
    (by kernel_rfl) (by kernel_rfl) (by kernel_rfl) ⟨F12_p.out, F12_r.out⟩ (fun w1 w2 hS hb => ⟨hS.1.below hb hS.1.lt, hS.2.below hb hS.2.lt⟩) ?_ ?_ ?_
  · refine Lex.all_cons ?_ (Lex.all_cons ?_ (Lex.all_cons ?_ (Lex.all_cons ?_ (Lex.all_cons ?_ (Lex.all_cons ?_ (Lex.all_nil))))))
    · exact fun v w1 w2 h _ => h
    · exact fun v w1 w2 h hb => IsRQ.below h hb
    · exact fun v w1 w2 h _ => h
    · exact fun v w1 w2 h hb => IsRQ.below h hb
    · exact fun v w1 w2 ⟨B, hv, hl, hT⟩ hb => ⟨B, hv, hl, hT.below hb hT.lt⟩
    · exact fun v w1 w2 ⟨B, hv, hl, hT⟩ hb => ⟨B, hv, hl, hT.below hb hT.lt⟩
  · refine Lex.all_cons ?_ (Lex.all_cons ?_ (Lex.all_cons ?_ (Lex.all_cons ?_ (Lex.all_cons ?_ (Lex.all_cons ?_ (Lex.all_nil))))))
    · refine Lex.ob_eager rfl rfl (fun σ w1 hS hB hg => ⟨.agg #[.int .i64 p, .int .i64 q], rfl, fun w2 hS => ?_, rfl⟩)
      clear hg
      simp only [Lex.full, Act.put, List.setIfInBounds_toArray, List.set_cons_zero, List.set_cons_succ]
      have f0_0 := hS.1.cell0
      have f0_1 := hS.1.cell1
      clear hS
      go_simp
      all_goals with_reducible rfl
    · refine Lex.ob_step rfl rfl rfl (fun σ w1 hS hB hg K hK => ?_)
      have HK := Lib.hid hK
      clear hK
      have g0 : (σ 0) = .agg #[.int .i64 p, .int .i64 q] := hg (0, 98) (by simp) (by kernel_rfl)
      clear hg
      simp only [Lex.full, Act.put, List.setIfInBounds_toArray, List.set_cons_zero, List.set_cons_succ]
      simp only [g0]
      have hw1 : Below w.heap.size w w1 := B12_.out.drew.trans (hB.mono B12_.out.size)
      have cc := co1 w1 hw1
      go_wp2_with fail
      refine cc.mono ?_
      rintro e w2 ⟨v1, rfl, hm, hn⟩
      clear cc
      go_wp2_with fail
      exact HK.out _ _ ⟨rfl, hn, hm, fun h => nomatch h⟩
    · refine Lex.ob_eager rfl rfl (fun σ w1 hS hB hg => ⟨.agg #[.int .i64 r, .int .i64 s], rfl, fun w2 hS => ?_, rfl⟩)
      clear hg
      simp only [Lex.full, Act.put, List.setIfInBounds_toArray, List.set_cons_zero, List.set_cons_succ]
      have f1_0 := hS.2.cell0
      have f1_1 := hS.2.cell1
      clear hS
      go_simp
      all_goals with_reducible rfl
    · refine Lex.ob_step rfl rfl rfl (fun σ w1 hS hB hg K hK => ?_)
      have HK := Lib.hid hK
      clear hK
      have g2 : (σ 2) = .agg #[.int .i64 r, .int .i64 s] := hg (2, 100) (by simp) (by kernel_rfl)
      clear hg
      simp only [Lex.full, Act.put, List.setIfInBounds_toArray, List.set_cons_zero, List.set_cons_succ]
      simp only [g2]
      have hw1 : Below w.heap.size w w1 := B12_.out.drew.trans (hB.mono B12_.out.size)
      have cc := co2 w1 hw1
      go_wp2_with fail
      refine cc.mono ?_
      rintro e w2 ⟨v1, rfl, hm, hn⟩
      clear cc
      go_wp2_with fail
      exact HK.out _ _ ⟨rfl, hn, hm, fun h => nomatch h⟩
    · refine Lex.ob_step rfl rfl rfl (fun σ w1 hS hB hg K hK => ?_)
      have HK := Lib.hid hK
      clear hK
      clear hg
      simp only [Lex.full, Act.put, List.setIfInBounds_toArray, List.set_cons_zero, List.set_cons_succ]
      go_wp2_with fail
      refine HK.out _ _ ⟨rfl, (Below.refl _ _).alloc (Nat.le_refl _) _, ⟨w1.heap.size, rfl, show V112.heap.size ≤ _ from hB.size, Four.newAt _ _ _ _ _ _ _ rfl⟩, fun _ => ?_⟩
      refine Lex.all_cons ?_ (Lex.all_cons ?_ (Lex.all_cons ?_ (Lex.all_cons ?_ (Lex.all_cons ?_ (Lex.all_cons ?_ (Lex.all_nil))))))
      · intro u h; cases h
      · intro u h; cases h
      · intro u h; cases h
      · intro u h; cases h
      · rintro u _ ⟨B, rfl, _, hT⟩ he; have := hT.lt; have he : Value.pointer (some ⟨B, 0, none⟩) = .pointer (some ⟨w1.heap.size, 0, none⟩) := he; injection he with he; injection he with he; injection he with he; omega
      · rintro u _ ⟨B, rfl, _, hT⟩ he; have := hT.lt; have he : Value.pointer (some ⟨B, 0, none⟩) = .pointer (some ⟨w1.heap.size, 0, none⟩) := he; injection he with he; injection he with he; injection he with he; omega
    · refine Lex.ob_step rfl rfl rfl (fun σ w1 hS hB hg K hK => ?_)
      have HK := Lib.hid hK
      clear hK
      clear hg
      simp only [Lex.full, Act.put, List.setIfInBounds_toArray, List.set_cons_zero, List.set_cons_succ]
      go_wp2_with fail
      refine HK.out _ _ ⟨rfl, (Below.refl _ _).alloc (Nat.le_refl _) _, ⟨w1.heap.size, rfl, show V112.heap.size ≤ _ from hB.size, Four.newAt _ _ _ _ _ _ _ rfl⟩, fun _ => ?_⟩
      refine Lex.all_cons ?_ (Lex.all_cons ?_ (Lex.all_cons ?_ (Lex.all_cons ?_ (Lex.all_cons ?_ (Lex.all_cons ?_ (Lex.all_nil))))))
      · intro u h; cases h
      · intro u h; cases h
      · intro u h; cases h
      · intro u h; cases h
      · rintro u _ ⟨B, rfl, _, hT⟩ he; have := hT.lt; have he : Value.pointer (some ⟨B, 0, none⟩) = .pointer (some ⟨w1.heap.size, 0, none⟩) := he; injection he with he; injection he with he; injection he with he; omega
      · rintro u _ ⟨B, rfl, _, hT⟩ he; have := hT.lt; have he : Value.pointer (some ⟨B, 0, none⟩) = .pointer (some ⟨w1.heap.size, 0, none⟩) := he; injection he with he; injection he with he; injection he with he; omega
  · intro σ V13_ hS hB hg hd
    have e0 : (σ 0) = .agg #[.int .i64 p, .int .i64 q] := hg (0, 98) (by simp)
    have e1 : IsRQ V13_ (σ 1) p q 5 := hg (1, 99) (by simp)
    have e2 : (σ 2) = .agg #[.int .i64 r, .int .i64 s] := hg (2, 100) (by simp)
    have e3 : IsRQ V13_ (σ 3) r s 5 := hg (3, 101) (by simp)
    have e4 : ∃ B, (σ 4) = .pointer (some ⟨B, 0, none⟩) ∧ V112.heap.size ≤ B ∧ Four V13_ B (.bool false) (.slice none 0 0) (.bool false) (.slice none 0 0) 40 := hg (4, 16) (by simp)
    have e5 : ∃ B, (σ 5) = .pointer (some ⟨B, 0, none⟩) ∧ V112.heap.size ≤ B ∧ Four V13_ B (.bool false) (.slice none 0 0) (.bool false) (.slice none 0 0) 40 := hg (5, 17) (by simp)
    have n13_4_5 : σ 4 ≠ σ 5 := hd (4, 16) (by simp) (5, 17) (by simp) (by decide) rfl rfl
    clear hg hd
    simp only [Lex.full, Act.put, List.setIfInBounds_toArray, List.set_cons_zero, List.set_cons_succ]
    generalize σ 0 = s13_0 at *
    generalize σ 1 = s13_1 at *
    generalize σ 2 = s13_2 at *
    generalize σ 3 = s13_3 at *
    generalize σ 4 = s13_4 at *
    generalize σ 5 = s13_5 at *
    clear σ
    subst e0
    obtain ⟨px5, Ax5, nx5, cx5, px6, Ax6, nx6, cx6, rfl, hPx, hQx⟩ := IsRQ.open' e1
    have hX := (show IsRQ V13_ (.agg #[.bool px5.1, .slice Ax5 nx5 cx5, .bool px6.1, .slice Ax6 nx6 cx6]) p q 5 from ⟨px5.1, _, px6.1, _, rfl, hPx, hQx⟩)
    subst e2
    obtain ⟨py5, Ay5, ny5, cy5, py6, Ay6, ny6, cy6, rfl, hPy, hQy⟩ := IsRQ.open' e3
    have hY := (show IsRQ V13_ (.agg #[.bool py5.1, .slice Ay5 ny5 cy5, .bool py6.1, .slice Ay6 ny6 cy6]) r s 5 from ⟨py5.1, _, py6.1, _, rfl, hPy, hQy⟩)
    obtain ⟨B13_4, rfl, l13_4, T4⟩ := e4
    have HT13_4 := Lib.hid T4
    clear T4
    obtain ⟨B13_5, rfl, l13_5, T5⟩ := e5
    have HT13_5 := Lib.hid T5
    clear T5
    replace n13_4_5 : B13_4 ≠ B13_5 := fun e => n13_4_5 (by rw [e])
    have HBm := Lib.hid (show Below w.heap.size w V13_ from B12_.out.drew.trans (hB.mono B12_.out.size))
    have HBb := Lib.hid (show Below V112.heap.size V112 V13_ from ⟨hB.os, hB.tape, hB.output, hB.size, hB.block⟩)
    have HSm := Lib.hid hS
    clear hB hS
    have l13_p := F12_p.out.lt
    have G13_p := Lib.hid HSm.out.1
    have l13_r := F12_r.out.lt
    have G13_r := Lib.hid HSm.out.2
    have l13_s := F12_s.out.lt
    have G13_s := Lib.hid (F12_s.out.below HBb.out F12_s.out.lt)
    have l13_d := F12_d.out.lt
    have G13_d := Lib.hid (F12_d.out.below HBb.out F12_d.out.lt)
    have l13_m := F12_m.out.lt
    have G13_m := Lib.hid (F12_m.out.below HBb.out F12_m.out.lt)
    have l13_q := F12_q.out.lt
    have G13_q := Lib.hid (F12_q.out.below HBb.out F12_q.out.lt)
    have l13_z := F12_z.out.lt
    have G13_z := Lib.hid (F12_z.out.below HBb.out F12_z.out.lt)
    have lw13 := B12_.out.size
    clear HSm HBb F12_p F12_r F12_s F12_d F12_m F12_q F12_z B12_
    have Y13_x := Lib.hid hX
    clear hX
    have Y13_y := Lib.hid hY
    clear hY
    refine Lex.lex_do rfl ?_
    have r0 := HT13_4.out.cell0
    have g0 := HT13_4.out.free 0
    have r1 := HT13_4.out.cell1
    have g1 := HT13_4.out.free 1
    have r2 := HT13_4.out.cell2
    have g2 := HT13_4.out.free 2
    have r3 := HT13_4.out.cell3
    have g3 := HT13_4.out.free 3
    obtain ⟨V13_s1, hV1⟩ : ∃ V13_s1, V13_s1 = ((((V13_.setCell ⟨B13_4, 0, none⟩ (.bool px5.1)).setCell ⟨B13_4, 1, none⟩ (.slice Ax5 nx5 cx5)).setCell ⟨B13_4, 2, none⟩ (.bool px6.1)).setCell ⟨B13_4, 3, none⟩ (.slice Ax6 nx6 cx6)) := ⟨_, rfl⟩
    have HV1 := Lib.hid hV1
    clear hV1
    go_wp2_with fail
    rw [← HV1.out]
    clear r0 g0 r1 g1 r2 g2 r3 g3
    have G13_ps := Lib.hid (show Two V13_s1 w.heap.size (.int .i64 p) (.int .i64 q) 28 by rw [HV1.out]; exact ((((G13_p.out.setOther ⟨B13_4, 0, none⟩ _ (by dsimp only; omega)).setOther ⟨B13_4, 1, none⟩ _ (by dsimp only; omega)).setOther ⟨B13_4, 2, none⟩ _ (by dsimp only; omega)).setOther ⟨B13_4, 3, none⟩ _ (by dsimp only; omega)))
    have G13_rs := Lib.hid (show Two V13_s1 (w.heap.size + 1) (.int .i64 r) (.int .i64 s) 28 by rw [HV1.out]; exact ((((G13_r.out.setOther ⟨B13_4, 0, none⟩ _ (by dsimp only; omega)).setOther ⟨B13_4, 1, none⟩ _ (by dsimp only; omega)).setOther ⟨B13_4, 2, none⟩ _ (by dsimp only; omega)).setOther ⟨B13_4, 3, none⟩ _ (by dsimp only; omega)))
    have G13_ss := Lib.hid (show Two V13_s1 N2 (.int .i64 sn) (.int .i64 sd) 28 by rw [HV1.out]; exact ((((G13_s.out.setOther ⟨B13_4, 0, none⟩ _ (by dsimp only; omega)).setOther ⟨B13_4, 1, none⟩ _ (by dsimp only; omega)).setOther ⟨B13_4, 2, none⟩ _ (by dsimp only; omega)).setOther ⟨B13_4, 3, none⟩ _ (by dsimp only; omega)))
    have G13_ds := Lib.hid (show Two V13_s1 N4 (.int .i64 dn) (.int .i64 dd) 28 by rw [HV1.out]; exact ((((G13_d.out.setOther ⟨B13_4, 0, none⟩ _ (by dsimp only; omega)).setOther ⟨B13_4, 1, none⟩ _ (by dsimp only; omega)).setOther ⟨B13_4, 2, none⟩ _ (by dsimp only; omega)).setOther ⟨B13_4, 3, none⟩ _ (by dsimp only; omega)))
    have G13_ms := Lib.hid (show Two V13_s1 N6 (.int .i64 mn) (.int .i64 md) 28 by rw [HV1.out]; exact ((((G13_m.out.setOther ⟨B13_4, 0, none⟩ _ (by dsimp only; omega)).setOther ⟨B13_4, 1, none⟩ _ (by dsimp only; omega)).setOther ⟨B13_4, 2, none⟩ _ (by dsimp only; omega)).setOther ⟨B13_4, 3, none⟩ _ (by dsimp only; omega)))
    have G13_qs := Lib.hid (show Two V13_s1 N8 (.int .i64 qn) (.int .i64 qd) 28 by rw [HV1.out]; exact ((((G13_q.out.setOther ⟨B13_4, 0, none⟩ _ (by dsimp only; omega)).setOther ⟨B13_4, 1, none⟩ _ (by dsimp only; omega)).setOther ⟨B13_4, 2, none⟩ _ (by dsimp only; omega)).setOther ⟨B13_4, 3, none⟩ _ (by dsimp only; omega)))
    have G13_zs := Lib.hid (show Two V13_s1 N10 (.int .i64 0) (.int .i64 0) 28 by rw [HV1.out]; exact ((((G13_z.out.setOther ⟨B13_4, 0, none⟩ _ (by dsimp only; omega)).setOther ⟨B13_4, 1, none⟩ _ (by dsimp only; omega)).setOther ⟨B13_4, 2, none⟩ _ (by dsimp only; omega)).setOther ⟨B13_4, 3, none⟩ _ (by dsimp only; omega)))
    replace HT13_5 := Lib.hid (show Four V13_s1 _ _ _ _ _ _ by rw [HV1.out]; exact ((((HT13_5.out.setOther ⟨B13_4, 0, none⟩ _ (by dsimp only; omega)).setOther ⟨B13_4, 1, none⟩ _ (by dsimp only; omega)).setOther ⟨B13_4, 2, none⟩ _ (by dsimp only; omega)).setOther ⟨B13_4, 3, none⟩ _ (by dsimp only; omega)))
    have G13_X := Lib.hid (show Four V13_s1 B13_4 (.bool px5.1) (.slice Ax5 nx5 cx5) (.bool px6.1) (.slice Ax6 nx6 cx6) 40 by rw [HV1.out]; exact HT13_4.out.set4 _ _ _ _)
    have Y13_xs := Lib.hid (show IsRQ V13_s1 (.agg #[.bool px5.1, .slice Ax5 nx5 cx5, .bool px6.1, .slice Ax6 nx6 cx6]) p q 5 by rw [HV1.out]; exact IsRQ.stored4 Y13_x.out HT13_4.out)
    clear Y13_x
    have Y13_ys := Lib.hid (show IsRQ V13_s1 (.agg #[.bool py5.1, .slice Ay5 ny5 cy5, .bool py6.1, .slice Ay6 ny6 cy6]) r s 5 by rw [HV1.out]; exact IsRQ.stored4 Y13_y.out HT13_4.out)
    clear Y13_y
    have HB13_1 := Lib.hid (show Below w.heap.size w V13_s1 by rw [HV1.out]; exact ((((HBm.out.setCell (by dsimp only; omega) _).setCell (by dsimp only; omega) _).setCell (by dsimp only; omega) _).setCell (by dsimp only; omega) _))
    clear HV1 HT13_4 HBm G13_p G13_r G13_s G13_d G13_m G13_q G13_z
    refine Lex.lexQ_normal (fun _ => ⟨G13_ps.out, G13_rs.out⟩) ?_
    refine Lex.lex_do rfl ?_
    have r0 := HT13_5.out.cell0
    have g0 := HT13_5.out.free 0
    have r1 := HT13_5.out.cell1
    have g1 := HT13_5.out.free 1
    have r2 := HT13_5.out.cell2
    have g2 := HT13_5.out.free 2
    have r3 := HT13_5.out.cell3
    have g3 := HT13_5.out.free 3
    obtain ⟨V13_s2, hV1⟩ : ∃ V13_s2, V13_s2 = ((((V13_s1.setCell ⟨B13_5, 0, none⟩ (.bool py5.1)).setCell ⟨B13_5, 1, none⟩ (.slice Ay5 ny5 cy5)).setCell ⟨B13_5, 2, none⟩ (.bool py6.1)).setCell ⟨B13_5, 3, none⟩ (.slice Ay6 ny6 cy6)) := ⟨_, rfl⟩
    have HV1 := Lib.hid hV1
    clear hV1
    go_wp2_with fail
    rw [← HV1.out]
    clear r0 g0 r1 g1 r2 g2 r3 g3
    have G13_pss := Lib.hid (show Two V13_s2 w.heap.size (.int .i64 p) (.int .i64 q) 28 by rw [HV1.out]; exact ((((G13_ps.out.setOther ⟨B13_5, 0, none⟩ _ (by dsimp only; omega)).setOther ⟨B13_5, 1, none⟩ _ (by dsimp only; omega)).setOther ⟨B13_5, 2, none⟩ _ (by dsimp only; omega)).setOther ⟨B13_5, 3, none⟩ _ (by dsimp only; omega)))
    have G13_rss := Lib.hid (show Two V13_s2 (w.heap.size + 1) (.int .i64 r) (.int .i64 s) 28 by rw [HV1.out]; exact ((((G13_rs.out.setOther ⟨B13_5, 0, none⟩ _ (by dsimp only; omega)).setOther ⟨B13_5, 1, none⟩ _ (by dsimp only; omega)).setOther ⟨B13_5, 2, none⟩ _ (by dsimp only; omega)).setOther ⟨B13_5, 3, none⟩ _ (by dsimp only; omega)))
    have G13_sss := Lib.hid (show Two V13_s2 N2 (.int .i64 sn) (.int .i64 sd) 28 by rw [HV1.out]; exact ((((G13_ss.out.setOther ⟨B13_5, 0, none⟩ _ (by dsimp only; omega)).setOther ⟨B13_5, 1, none⟩ _ (by dsimp only; omega)).setOther ⟨B13_5, 2, none⟩ _ (by dsimp only; omega)).setOther ⟨B13_5, 3, none⟩ _ (by dsimp only; omega)))
    have G13_dss := Lib.hid (show Two V13_s2 N4 (.int .i64 dn) (.int .i64 dd) 28 by rw [HV1.out]; exact ((((G13_ds.out.setOther ⟨B13_5, 0, none⟩ _ (by dsimp only; omega)).setOther ⟨B13_5, 1, none⟩ _ (by dsimp only; omega)).setOther ⟨B13_5, 2, none⟩ _ (by dsimp only; omega)).setOther ⟨B13_5, 3, none⟩ _ (by dsimp only; omega)))
    have G13_mss := Lib.hid (show Two V13_s2 N6 (.int .i64 mn) (.int .i64 md) 28 by rw [HV1.out]; exact ((((G13_ms.out.setOther ⟨B13_5, 0, none⟩ _ (by dsimp only; omega)).setOther ⟨B13_5, 1, none⟩ _ (by dsimp only; omega)).setOther ⟨B13_5, 2, none⟩ _ (by dsimp only; omega)).setOther ⟨B13_5, 3, none⟩ _ (by dsimp only; omega)))
    have G13_qss := Lib.hid (show Two V13_s2 N8 (.int .i64 qn) (.int .i64 qd) 28 by rw [HV1.out]; exact ((((G13_qs.out.setOther ⟨B13_5, 0, none⟩ _ (by dsimp only; omega)).setOther ⟨B13_5, 1, none⟩ _ (by dsimp only; omega)).setOther ⟨B13_5, 2, none⟩ _ (by dsimp only; omega)).setOther ⟨B13_5, 3, none⟩ _ (by dsimp only; omega)))
    have G13_zss := Lib.hid (show Two V13_s2 N10 (.int .i64 0) (.int .i64 0) 28 by rw [HV1.out]; exact ((((G13_zs.out.setOther ⟨B13_5, 0, none⟩ _ (by dsimp only; omega)).setOther ⟨B13_5, 1, none⟩ _ (by dsimp only; omega)).setOther ⟨B13_5, 2, none⟩ _ (by dsimp only; omega)).setOther ⟨B13_5, 3, none⟩ _ (by dsimp only; omega)))
    have G13_Xs := Lib.hid (show Four V13_s2 B13_4 (.bool px5.1) (.slice Ax5 nx5 cx5) (.bool px6.1) (.slice Ax6 nx6 cx6) 40 by rw [HV1.out]; exact ((((G13_X.out.setOther ⟨B13_5, 0, none⟩ _ (by dsimp only; omega)).setOther ⟨B13_5, 1, none⟩ _ (by dsimp only; omega)).setOther ⟨B13_5, 2, none⟩ _ (by dsimp only; omega)).setOther ⟨B13_5, 3, none⟩ _ (by dsimp only; omega)))
    have G13_Y := Lib.hid (show Four V13_s2 B13_5 (.bool py5.1) (.slice Ay5 ny5 cy5) (.bool py6.1) (.slice Ay6 ny6 cy6) 40 by rw [HV1.out]; exact HT13_5.out.set4 _ _ _ _)
    have Y13_xss := Lib.hid (show IsRQ V13_s2 (.agg #[.bool px5.1, .slice Ax5 nx5 cx5, .bool px6.1, .slice Ax6 nx6 cx6]) p q 5 by rw [HV1.out]; exact IsRQ.stored4 Y13_xs.out HT13_5.out)
    clear Y13_xs
    have Y13_yss := Lib.hid (show IsRQ V13_s2 (.agg #[.bool py5.1, .slice Ay5 ny5 cy5, .bool py6.1, .slice Ay6 ny6 cy6]) r s 5 by rw [HV1.out]; exact IsRQ.stored4 Y13_ys.out HT13_5.out)
    clear Y13_ys
    have HB13_2 := Lib.hid (show Below w.heap.size w V13_s2 by rw [HV1.out]; exact ((((HB13_1.out.setCell (by dsimp only; omega) _).setCell (by dsimp only; omega) _).setCell (by dsimp only; omega) _).setCell (by dsimp only; omega) _))
    clear HV1 HT13_5 HB13_1 G13_ps G13_rs G13_ss G13_ds G13_ms G13_qs G13_zs G13_X
    refine Lex.lexQ_normal (fun _ => ⟨G13_pss.out, G13_rss.out⟩) ?_
    refine Lex.lex_nil ?_
    clear hPx hQx hPy hQy co1 co2
    go_upto_region 10 with fail
    have k0_0 := G13_Xs.out.cell0
    have k0_1 := G13_Xs.out.cell1
    have k0_2 := G13_Xs.out.cell2
    have k0_3 := G13_Xs.out.cell3
    have k1_0 := G13_Y.out.cell0
    have k1_1 := G13_Y.out.cell1
    have k1_2 := G13_Y.out.cell2
    have k1_3 := G13_Y.out.cell3
    have hb140 := Below.refl V13_s2.heap.size V13_s2
    have hw140 := HB13_2.out
    have cc := cqa V13_s2 hw140 _ _ (Y13_xss.out.below hb140) (Y13_yss.out.below hb140)
    go_wp2_with fail
    refine cc.mono ?_
    rintro e V141 ⟨v141, rfl, hm141, hn141⟩
    have hb141 := hb140.trans (hn141.mono hb140.size)
    have hw141 := hw140.trans (hn141.mono hw140.size)
    clear cc hb140 hw140 hn141
    clear k0_0 k0_1 k0_2 k0_3 k1_0 k1_1 k1_2 k1_3
    have k0_0 := (G13_Xs.out.below hb141 G13_Xs.out.lt).cell0
    have k0_1 := (G13_Xs.out.below hb141 G13_Xs.out.lt).cell1
    have k0_2 := (G13_Xs.out.below hb141 G13_Xs.out.lt).cell2
    have k0_3 := (G13_Xs.out.below hb141 G13_Xs.out.lt).cell3
    have k1_0 := (G13_Y.out.below hb141 G13_Y.out.lt).cell0
    have k1_1 := (G13_Y.out.below hb141 G13_Y.out.lt).cell1
    have k1_2 := (G13_Y.out.below hb141 G13_Y.out.lt).cell2
    have k1_3 := (G13_Y.out.below hb141 G13_Y.out.lt).cell3
    have cc := cfa V141 hw141 _ hm141
    go_wp2_with fail
    refine cc.mono ?_
    rintro e V142 ⟨v142, rfl, hm142, hn142⟩
    have hb142 := hb141.trans (hn142.mono hb141.size)
    have hw142 := hw141.trans (hn142.mono hw141.size)
    clear hm141
    subst hm142
    clear cc hb141 hw141 hn142
    clear k0_0 k0_1 k0_2 k0_3 k1_0 k1_1 k1_2 k1_3
    have k0_0 := (G13_Xs.out.below hb142 G13_Xs.out.lt).cell0
    have k0_1 := (G13_Xs.out.below hb142 G13_Xs.out.lt).cell1
    have k0_2 := (G13_Xs.out.below hb142 G13_Xs.out.lt).cell2
    have k0_3 := (G13_Xs.out.below hb142 G13_Xs.out.lt).cell3
    have k1_0 := (G13_Y.out.below hb142 G13_Y.out.lt).cell0
    have k1_1 := (G13_Y.out.below hb142 G13_Y.out.lt).cell1
    have k1_2 := (G13_Y.out.below hb142 G13_Y.out.lt).cell2
    have k1_3 := (G13_Y.out.below hb142 G13_Y.out.lt).cell3
    clear cqa cfa
    obtain ⟨N15, hNB⟩ : ∃ N15, N15 = V142.heap.size := ⟨_, rfl⟩
    obtain ⟨U15, hU⟩ : ∃ U15, U15 = V142.alloc (.cells #[.int .i64 sn, .int .i64 sd] 28) := ⟨_, rfl⟩
    have HU := Lib.hid (show U15 = _ ∧ N15 = _ from ⟨hU, hNB⟩)
    clear hU hNB
    go_upto_region 11 with fail
    clear k0_0 k0_1 k0_2 k0_3 k1_0 k1_1 k1_2 k1_3
    rw [← HU.out.2, ← HU.out.1]
    have hbU := hb142.alloc hb142.size (.cells #[.int .i64 sn, .int .i64 sd] 28)
    have hwU := hw142.alloc hw142.size (.cells #[.int .i64 sn, .int .i64 sd] 28)
    rw [← HU.out.1] at hbU hwU
    have F15_p := Lib.hid (G13_pss.out.below hbU G13_pss.out.lt)
    have F15_r := Lib.hid (G13_rss.out.below hbU G13_rss.out.lt)
    have F15_s := Lib.hid (G13_sss.out.below hbU G13_sss.out.lt)
    have F15_d := Lib.hid (G13_dss.out.below hbU G13_dss.out.lt)
    have F15_m := Lib.hid (G13_mss.out.below hbU G13_mss.out.lt)
    have F15_q := Lib.hid (G13_qss.out.below hbU G13_qss.out.lt)
    have F15_z := Lib.hid (G13_zss.out.below hbU G13_zss.out.lt)
    have F15_X := Lib.hid (G13_Xs.out.below hbU G13_Xs.out.lt)
    have F15_Y := Lib.hid (G13_Y.out.below hbU G13_Y.out.lt)
    have F15_ra := Lib.hid (show Two U15 N15 (.int .i64 sn) (.int .i64 sd) 28 by rw [HU.out.1, HU.out.2]; exact Two.newAt _ _ _ _ _ rfl)
    have X15_x := Lib.hid (Y13_xss.out.below hbU)
    have X15_y := Lib.hid (Y13_yss.out.below hbU)
    have B15_ := Lib.hid hwU
    clear HU hbU hwU hb142 hw142 G13_pss G13_rss G13_sss G13_dss G13_mss G13_qss G13_zss G13_Xs G13_Y HB13_2 Y13_xss Y13_yss
    have k0_0 := F15_X.out.cell0
    have k0_1 := F15_X.out.cell1
    have k0_2 := F15_X.out.cell2
    have k0_3 := F15_X.out.cell3
    have k1_0 := F15_Y.out.cell0
    have k1_1 := F15_Y.out.cell1
    have k1_2 := F15_Y.out.cell2
    have k1_3 := F15_Y.out.cell3
    have hb160 := Below.refl U15.heap.size U15
    have hw160 := B15_.out
    have cc := cqs U15 hw160 _ _ (X15_x.out.below hb160) (X15_y.out.below hb160)
    go_wp2_with fail
    refine cc.mono ?_
    rintro e V161 ⟨v161, rfl, hm161, hn161⟩
    have hb161 := hb160.trans (hn161.mono hb160.size)
    have hw161 := hw160.trans (hn161.mono hw160.size)
    clear cc hb160 hw160 hn161
    clear k0_0 k0_1 k0_2 k0_3 k1_0 k1_1 k1_2 k1_3
    have k0_0 := (F15_X.out.below hb161 F15_X.out.lt).cell0
    have k0_1 := (F15_X.out.below hb161 F15_X.out.lt).cell1
    have k0_2 := (F15_X.out.below hb161 F15_X.out.lt).cell2
    have k0_3 := (F15_X.out.below hb161 F15_X.out.lt).cell3
    have k1_0 := (F15_Y.out.below hb161 F15_Y.out.lt).cell0
    have k1_1 := (F15_Y.out.below hb161 F15_Y.out.lt).cell1
    have k1_2 := (F15_Y.out.below hb161 F15_Y.out.lt).cell2
    have k1_3 := (F15_Y.out.below hb161 F15_Y.out.lt).cell3
    have cc := cfs V161 hw161 _ hm161
    go_wp2_with fail
    refine cc.mono ?_
    rintro e V162 ⟨v162, rfl, hm162, hn162⟩
    have hb162 := hb161.trans (hn162.mono hb161.size)
    have hw162 := hw161.trans (hn162.mono hw161.size)
    clear hm161
    subst hm162
    clear cc hb161 hw161 hn162
    clear k0_0 k0_1 k0_2 k0_3 k1_0 k1_1 k1_2 k1_3
    have k0_0 := (F15_X.out.below hb162 F15_X.out.lt).cell0
    have k0_1 := (F15_X.out.below hb162 F15_X.out.lt).cell1
    have k0_2 := (F15_X.out.below hb162 F15_X.out.lt).cell2
    have k0_3 := (F15_X.out.below hb162 F15_X.out.lt).cell3
    have k1_0 := (F15_Y.out.below hb162 F15_Y.out.lt).cell0
    have k1_1 := (F15_Y.out.below hb162 F15_Y.out.lt).cell1
    have k1_2 := (F15_Y.out.below hb162 F15_Y.out.lt).cell2
    have k1_3 := (F15_Y.out.below hb162 F15_Y.out.lt).cell3
    clear cqs cfs
    obtain ⟨N17, hNB⟩ : ∃ N17, N17 = V162.heap.size := ⟨_, rfl⟩
    obtain ⟨U17, hU⟩ : ∃ U17, U17 = V162.alloc (.cells #[.int .i64 dn, .int .i64 dd] 28) := ⟨_, rfl⟩
    have HU := Lib.hid (show U17 = _ ∧ N17 = _ from ⟨hU, hNB⟩)
    clear hU hNB
    go_upto_region 12 with fail
    clear k0_0 k0_1 k0_2 k0_3 k1_0 k1_1 k1_2 k1_3
    rw [← HU.out.2, ← HU.out.1]
    have hbU := hb162.alloc hb162.size (.cells #[.int .i64 dn, .int .i64 dd] 28)
    have hwU := hw162.alloc hw162.size (.cells #[.int .i64 dn, .int .i64 dd] 28)
    rw [← HU.out.1] at hbU hwU
    have F17_p := Lib.hid (F15_p.out.below hbU F15_p.out.lt)
    have F17_r := Lib.hid (F15_r.out.below hbU F15_r.out.lt)
    have F17_s := Lib.hid (F15_s.out.below hbU F15_s.out.lt)
    have F17_d := Lib.hid (F15_d.out.below hbU F15_d.out.lt)
    have F17_m := Lib.hid (F15_m.out.below hbU F15_m.out.lt)
    have F17_q := Lib.hid (F15_q.out.below hbU F15_q.out.lt)
    have F17_z := Lib.hid (F15_z.out.below hbU F15_z.out.lt)
    have F17_X := Lib.hid (F15_X.out.below hbU F15_X.out.lt)
    have F17_Y := Lib.hid (F15_Y.out.below hbU F15_Y.out.lt)
    have F17_ra := Lib.hid (F15_ra.out.below hbU F15_ra.out.lt)
    have F17_rs := Lib.hid (show Two U17 N17 (.int .i64 dn) (.int .i64 dd) 28 by rw [HU.out.1, HU.out.2]; exact Two.newAt _ _ _ _ _ rfl)
    have X17_x := Lib.hid (X15_x.out.below hbU)
    have X17_y := Lib.hid (X15_y.out.below hbU)
    have B17_ := Lib.hid hwU
    clear HU hbU hwU hb162 hw162 F15_p F15_r F15_s F15_d F15_m F15_q F15_z F15_X F15_Y F15_ra B15_ X15_x X15_y
    have k0_0 := F17_X.out.cell0
    have k0_1 := F17_X.out.cell1
    have k0_2 := F17_X.out.cell2
    have k0_3 := F17_X.out.cell3
    have k1_0 := F17_Y.out.cell0
    have k1_1 := F17_Y.out.cell1
    have k1_2 := F17_Y.out.cell2
    have k1_3 := F17_Y.out.cell3
    have hb180 := Below.refl U17.heap.size U17
    have hw180 := B17_.out
    have cc := cqm U17 hw180 _ _ (X17_x.out.below hb180) (X17_y.out.below hb180)
    go_wp2_with fail
    refine cc.mono ?_
    rintro e V181 ⟨v181, rfl, hm181, hn181⟩
    have hb181 := hb180.trans (hn181.mono hb180.size)
    have hw181 := hw180.trans (hn181.mono hw180.size)
    clear cc hb180 hw180 hn181
    clear k0_0 k0_1 k0_2 k0_3 k1_0 k1_1 k1_2 k1_3
    have k0_0 := (F17_X.out.below hb181 F17_X.out.lt).cell0
    have k0_1 := (F17_X.out.below hb181 F17_X.out.lt).cell1
    have k0_2 := (F17_X.out.below hb181 F17_X.out.lt).cell2
    have k0_3 := (F17_X.out.below hb181 F17_X.out.lt).cell3
    have k1_0 := (F17_Y.out.below hb181 F17_Y.out.lt).cell0
    have k1_1 := (F17_Y.out.below hb181 F17_Y.out.lt).cell1
    have k1_2 := (F17_Y.out.below hb181 F17_Y.out.lt).cell2
    have k1_3 := (F17_Y.out.below hb181 F17_Y.out.lt).cell3
    have cc := cfm V181 hw181 _ hm181
    go_wp2_with fail
    refine cc.mono ?_
    rintro e V182 ⟨v182, rfl, hm182, hn182⟩
    have hb182 := hb181.trans (hn182.mono hb181.size)
    have hw182 := hw181.trans (hn182.mono hw181.size)
    clear hm181
    subst hm182
    clear cc hb181 hw181 hn182
    clear k0_0 k0_1 k0_2 k0_3 k1_0 k1_1 k1_2 k1_3
    have k0_0 := (F17_X.out.below hb182 F17_X.out.lt).cell0
    have k0_1 := (F17_X.out.below hb182 F17_X.out.lt).cell1
    have k0_2 := (F17_X.out.below hb182 F17_X.out.lt).cell2
    have k0_3 := (F17_X.out.below hb182 F17_X.out.lt).cell3
    have k1_0 := (F17_Y.out.below hb182 F17_Y.out.lt).cell0
    have k1_1 := (F17_Y.out.below hb182 F17_Y.out.lt).cell1
    have k1_2 := (F17_Y.out.below hb182 F17_Y.out.lt).cell2
    have k1_3 := (F17_Y.out.below hb182 F17_Y.out.lt).cell3
    clear cqm cfm
    obtain ⟨N19, hNB⟩ : ∃ N19, N19 = V182.heap.size := ⟨_, rfl⟩
    obtain ⟨U19, hU⟩ : ∃ U19, U19 = V182.alloc (.cells #[.int .i64 mn, .int .i64 md] 28) := ⟨_, rfl⟩
    have HU := Lib.hid (show U19 = _ ∧ N19 = _ from ⟨hU, hNB⟩)
    clear hU hNB
    go_upto_region 13 with fail
    clear k0_0 k0_1 k0_2 k0_3 k1_0 k1_1 k1_2 k1_3
    rw [← HU.out.2, ← HU.out.1]
    have hbU := hb182.alloc hb182.size (.cells #[.int .i64 mn, .int .i64 md] 28)
    have hwU := hw182.alloc hw182.size (.cells #[.int .i64 mn, .int .i64 md] 28)
    rw [← HU.out.1] at hbU hwU
    have F19_p := Lib.hid (F17_p.out.below hbU F17_p.out.lt)
    have F19_r := Lib.hid (F17_r.out.below hbU F17_r.out.lt)
    have F19_s := Lib.hid (F17_s.out.below hbU F17_s.out.lt)
    have F19_d := Lib.hid (F17_d.out.below hbU F17_d.out.lt)
    have F19_m := Lib.hid (F17_m.out.below hbU F17_m.out.lt)
    have F19_q := Lib.hid (F17_q.out.below hbU F17_q.out.lt)
    have F19_z := Lib.hid (F17_z.out.below hbU F17_z.out.lt)
    have F19_X := Lib.hid (F17_X.out.below hbU F17_X.out.lt)
    have F19_Y := Lib.hid (F17_Y.out.below hbU F17_Y.out.lt)
    have F19_ra := Lib.hid (F17_ra.out.below hbU F17_ra.out.lt)
    have F19_rs := Lib.hid (F17_rs.out.below hbU F17_rs.out.lt)
    have F19_rm := Lib.hid (show Two U19 N19 (.int .i64 mn) (.int .i64 md) 28 by rw [HU.out.1, HU.out.2]; exact Two.newAt _ _ _ _ _ rfl)
    have X19_x := Lib.hid (X17_x.out.below hbU)
    have X19_y := Lib.hid (X17_y.out.below hbU)
    have B19_ := Lib.hid hwU
    clear HU hbU hwU hb182 hw182 F17_p F17_r F17_s F17_d F17_m F17_q F17_z F17_X F17_Y F17_ra F17_rs B17_ X17_x X17_y
    have q0_0 := F19_z.out.cell0
    have q0_1 := F19_z.out.cell1
    have hb0_ := Below.refl U19.heap.size U19
    have hw0_ := B19_.out
    obtain ⟨N20, hNB⟩ : ∃ N20, N20 = U19.heap.size := ⟨_, rfl⟩
    obtain ⟨U20, hU⟩ : ∃ U20, U20 = U19.alloc (.cells #[.int .i64 0, .int .i64 0] 28) := ⟨_, rfl⟩
    have HU := Lib.hid (show U20 = _ ∧ N20 = _ from ⟨hU, hNB⟩)
    clear hU hNB
    go_upto_region 14 with fail
    clear q0_0 q0_1
    rw [← HU.out.2, ← HU.out.1]
    have hbU := hb0_.alloc hb0_.size (.cells #[.int .i64 0, .int .i64 0] 28)
    have hwU := hw0_.alloc hw0_.size (.cells #[.int .i64 0, .int .i64 0] 28)
    rw [← HU.out.1] at hbU hwU
    have F20_p := Lib.hid (F19_p.out.below hbU F19_p.out.lt)
    have F20_r := Lib.hid (F19_r.out.below hbU F19_r.out.lt)
    have F20_s := Lib.hid (F19_s.out.below hbU F19_s.out.lt)
    have F20_d := Lib.hid (F19_d.out.below hbU F19_d.out.lt)
    have F20_m := Lib.hid (F19_m.out.below hbU F19_m.out.lt)
    have F20_q := Lib.hid (F19_q.out.below hbU F19_q.out.lt)
    have F20_z := Lib.hid (F19_z.out.below hbU F19_z.out.lt)
    have F20_X := Lib.hid (F19_X.out.below hbU F19_X.out.lt)
    have F20_Y := Lib.hid (F19_Y.out.below hbU F19_Y.out.lt)
    have F20_ra := Lib.hid (F19_ra.out.below hbU F19_ra.out.lt)
    have F20_rs := Lib.hid (F19_rs.out.below hbU F19_rs.out.lt)
    have F20_rm := Lib.hid (F19_rm.out.below hbU F19_rm.out.lt)
    have O20_p := Lib.hid (show w.heap.size < N20 by rw [HU.out.2]; exact (F19_p.out.below hb0_ F19_p.out.lt).lt)
    have O20_r := Lib.hid (show (w.heap.size + 1) < N20 by rw [HU.out.2]; exact (F19_r.out.below hb0_ F19_r.out.lt).lt)
    have O20_s := Lib.hid (show N2 < N20 by rw [HU.out.2]; exact (F19_s.out.below hb0_ F19_s.out.lt).lt)
    have O20_d := Lib.hid (show N4 < N20 by rw [HU.out.2]; exact (F19_d.out.below hb0_ F19_d.out.lt).lt)
    have O20_m := Lib.hid (show N6 < N20 by rw [HU.out.2]; exact (F19_m.out.below hb0_ F19_m.out.lt).lt)
    have O20_q := Lib.hid (show N8 < N20 by rw [HU.out.2]; exact (F19_q.out.below hb0_ F19_q.out.lt).lt)
    have O20_z := Lib.hid (show N10 < N20 by rw [HU.out.2]; exact (F19_z.out.below hb0_ F19_z.out.lt).lt)
    have O20_X := Lib.hid (show B13_4 < N20 by rw [HU.out.2]; exact (F19_X.out.below hb0_ F19_X.out.lt).lt)
    have O20_Y := Lib.hid (show B13_5 < N20 by rw [HU.out.2]; exact (F19_Y.out.below hb0_ F19_Y.out.lt).lt)
    have O20_ra := Lib.hid (show N15 < N20 by rw [HU.out.2]; exact (F19_ra.out.below hb0_ F19_ra.out.lt).lt)
    have O20_rs := Lib.hid (show N17 < N20 by rw [HU.out.2]; exact (F19_rs.out.below hb0_ F19_rs.out.lt).lt)
    have O20_rm := Lib.hid (show N19 < N20 by rw [HU.out.2]; exact (F19_rm.out.below hb0_ F19_rm.out.lt).lt)
    have OW20 := Lib.hid (show w.heap.size ≤ N20 by rw [HU.out.2]; exact hw0_.size)
    have F20_rd := Lib.hid (show Two U20 N20 (.int .i64 0) (.int .i64 0) 28 by rw [HU.out.1, HU.out.2]; exact Two.newAt _ _ _ _ _ rfl)
    have X20_x := Lib.hid (X19_x.out.below hbU)
    have X20_y := Lib.hid (X19_y.out.below hbU)
    have OX20_x := Lib.hid (X19_x.out.below hb0_)
    have OX20_y := Lib.hid (X19_y.out.below hb0_)
    have OV20 := Lib.hid (show Below U19.heap.size U19 U20 by rw [HU.out.1]; exact (Below.refl _ _).alloc (Nat.le_refl _) _)
    have OE20 := Lib.hid (show U19.heap.size ≤ N20 by rw [HU.out.2]; exact Nat.le_refl _)
    have B20_ := Lib.hid hwU
    clear HU hbU hwU hb0_ hw0_ F19_p F19_r F19_s F19_d F19_m F19_q F19_z F19_X F19_Y F19_ra F19_rs F19_rm B19_ X19_x X19_y
    have q0_0 := F20_r.out.cell0
    have q0_1 := F20_r.out.cell1
    go_upto_region 15 with fail
    clear q0_0 q0_1
    have k0_0 := F20_X.out.cell0
    have k0_1 := F20_X.out.cell1
    have k0_2 := F20_X.out.cell2
    have k0_3 := F20_X.out.cell3
    have k1_0 := F20_Y.out.cell0
    have k1_1 := F20_Y.out.cell1
    have k1_2 := F20_Y.out.cell2
    have k1_3 := F20_Y.out.cell3
    have hb210 := Below.refl U20.heap.size U20
    have hw210 := B20_.out
    have cc := cqd U20 hw210 _ _ (X20_x.out.below hb210) (X20_y.out.below hb210)
    go_wp2_with fail
    refine cc.mono ?_
    rintro e V211 ⟨v211, rfl, hm211, hn211⟩
    have hb211 := hb210.trans (hn211.mono hb210.size)
    have hw211 := hw210.trans (hn211.mono hw210.size)
    clear cc hb210 hw210 hn211
    clear k0_0 k0_1 k0_2 k0_3 k1_0 k1_1 k1_2 k1_3
    have k0_0 := (F20_X.out.below hb211 F20_X.out.lt).cell0
    have k0_1 := (F20_X.out.below hb211 F20_X.out.lt).cell1
    have k0_2 := (F20_X.out.below hb211 F20_X.out.lt).cell2
    have k0_3 := (F20_X.out.below hb211 F20_X.out.lt).cell3
    have k1_0 := (F20_Y.out.below hb211 F20_Y.out.lt).cell0
    have k1_1 := (F20_Y.out.below hb211 F20_Y.out.lt).cell1
    have k1_2 := (F20_Y.out.below hb211 F20_Y.out.lt).cell2
    have k1_3 := (F20_Y.out.below hb211 F20_Y.out.lt).cell3
    have cc := cfd V211 hw211 _ hm211
    go_wp2_with fail
    refine cc.mono ?_
    rintro e V212 ⟨v212, rfl, hm212, hn212⟩
    have hb212 := hb211.trans (hn212.mono hb211.size)
    have hw212 := hw211.trans (hn212.mono hw211.size)
    clear hm211
    subst hm212
    clear cc hb211 hw211 hn212
    clear k0_0 k0_1 k0_2 k0_3 k1_0 k1_1 k1_2 k1_3
    have k0_0 := (F20_X.out.below hb212 F20_X.out.lt).cell0
    have k0_1 := (F20_X.out.below hb212 F20_X.out.lt).cell1
    have k0_2 := (F20_X.out.below hb212 F20_X.out.lt).cell2
    have k0_3 := (F20_X.out.below hb212 F20_X.out.lt).cell3
    have k1_0 := (F20_Y.out.below hb212 F20_Y.out.lt).cell0
    have k1_1 := (F20_Y.out.below hb212 F20_Y.out.lt).cell1
    have k1_2 := (F20_Y.out.below hb212 F20_Y.out.lt).cell2
    have k1_3 := (F20_Y.out.below hb212 F20_Y.out.lt).cell3
    clear k0_0 k0_1 k0_2 k0_3 k1_0 k1_1 k1_2 k1_3
    have F22_p := Lib.hid (F20_p.out.below hb212 F20_p.out.lt)
    have F22_r := Lib.hid (F20_r.out.below hb212 F20_r.out.lt)
    have F22_s := Lib.hid (F20_s.out.below hb212 F20_s.out.lt)
    have F22_d := Lib.hid (F20_d.out.below hb212 F20_d.out.lt)
    have F22_m := Lib.hid (F20_m.out.below hb212 F20_m.out.lt)
    have F22_q := Lib.hid (F20_q.out.below hb212 F20_q.out.lt)
    have F22_z := Lib.hid (F20_z.out.below hb212 F20_z.out.lt)
    have F22_X := Lib.hid (F20_X.out.below hb212 F20_X.out.lt)
    have F22_Y := Lib.hid (F20_Y.out.below hb212 F20_Y.out.lt)
    have F22_ra := Lib.hid (F20_ra.out.below hb212 F20_ra.out.lt)
    have F22_rs := Lib.hid (F20_rs.out.below hb212 F20_rs.out.lt)
    have F22_rm := Lib.hid (F20_rm.out.below hb212 F20_rm.out.lt)
    have F22_rd := Lib.hid (F20_rd.out.below hb212 F20_rd.out.lt)
    have X22_x := Lib.hid (X20_x.out.below hb212)
    have X22_y := Lib.hid (X20_y.out.below hb212)
    have R22_ov := Lib.hid (OV20.out.trans (hb212.mono OV20.out.size))
    have B22_ := Lib.hid hw212
    clear hb212 hw212 F20_p F20_r F20_s F20_d F20_m F20_q F20_z F20_X F20_Y F20_ra F20_rs F20_rm F20_rd B20_ X20_x X20_y OV20
    clear cqd cfd
    have r0 := F22_rd.out.cell0
    have r1 := F22_rd.out.cell1
    have g0 := F22_rd.out.free 0
    have g1 := F22_rd.out.free 1
    obtain ⟨V_s, hV1⟩ : ∃ V_s, V_s = (V212.setCell ⟨N20, 0, none⟩ (.int .i64 qn)).setCell ⟨N20, 1, none⟩ (.int .i64 qd) := ⟨_, rfl⟩
    have HV1 := Lib.hid hV1
    clear hV1
    go_upto_region 16 with fail
    rw [← HV1.out]
    clear r0 r1 g0 g1
    have S_p := Lib.hid (show Two V_s w.heap.size (.int .i64 p) (.int .i64 q) 28 by rw [HV1.out]; exact (F22_p.out.setOther ⟨N20, 0, none⟩ _ (by dsimp only; have := O20_p.out; omega)).setOther ⟨N20, 1, none⟩ _ (by dsimp only; have := O20_p.out; omega))
    have S_r := Lib.hid (show Two V_s (w.heap.size + 1) (.int .i64 r) (.int .i64 s) 28 by rw [HV1.out]; exact (F22_r.out.setOther ⟨N20, 0, none⟩ _ (by dsimp only; have := O20_r.out; omega)).setOther ⟨N20, 1, none⟩ _ (by dsimp only; have := O20_r.out; omega))
    have S_s := Lib.hid (show Two V_s N2 (.int .i64 sn) (.int .i64 sd) 28 by rw [HV1.out]; exact (F22_s.out.setOther ⟨N20, 0, none⟩ _ (by dsimp only; have := O20_s.out; omega)).setOther ⟨N20, 1, none⟩ _ (by dsimp only; have := O20_s.out; omega))
    have S_d := Lib.hid (show Two V_s N4 (.int .i64 dn) (.int .i64 dd) 28 by rw [HV1.out]; exact (F22_d.out.setOther ⟨N20, 0, none⟩ _ (by dsimp only; have := O20_d.out; omega)).setOther ⟨N20, 1, none⟩ _ (by dsimp only; have := O20_d.out; omega))
    have S_m := Lib.hid (show Two V_s N6 (.int .i64 mn) (.int .i64 md) 28 by rw [HV1.out]; exact (F22_m.out.setOther ⟨N20, 0, none⟩ _ (by dsimp only; have := O20_m.out; omega)).setOther ⟨N20, 1, none⟩ _ (by dsimp only; have := O20_m.out; omega))
    have S_q := Lib.hid (show Two V_s N8 (.int .i64 qn) (.int .i64 qd) 28 by rw [HV1.out]; exact (F22_q.out.setOther ⟨N20, 0, none⟩ _ (by dsimp only; have := O20_q.out; omega)).setOther ⟨N20, 1, none⟩ _ (by dsimp only; have := O20_q.out; omega))
    have S_z := Lib.hid (show Two V_s N10 (.int .i64 0) (.int .i64 0) 28 by rw [HV1.out]; exact (F22_z.out.setOther ⟨N20, 0, none⟩ _ (by dsimp only; have := O20_z.out; omega)).setOther ⟨N20, 1, none⟩ _ (by dsimp only; have := O20_z.out; omega))
    have S_X := Lib.hid (show Four V_s B13_4 (.bool px5.1) (.slice Ax5 nx5 cx5) (.bool px6.1) (.slice Ax6 nx6 cx6) 40 by rw [HV1.out]; exact (F22_X.out.setOther ⟨N20, 0, none⟩ _ (by dsimp only; have := O20_X.out; omega)).setOther ⟨N20, 1, none⟩ _ (by dsimp only; have := O20_X.out; omega))
    have S_Y := Lib.hid (show Four V_s B13_5 (.bool py5.1) (.slice Ay5 ny5 cy5) (.bool py6.1) (.slice Ay6 ny6 cy6) 40 by rw [HV1.out]; exact (F22_Y.out.setOther ⟨N20, 0, none⟩ _ (by dsimp only; have := O20_Y.out; omega)).setOther ⟨N20, 1, none⟩ _ (by dsimp only; have := O20_Y.out; omega))
    have S_ra := Lib.hid (show Two V_s N15 (.int .i64 sn) (.int .i64 sd) 28 by rw [HV1.out]; exact (F22_ra.out.setOther ⟨N20, 0, none⟩ _ (by dsimp only; have := O20_ra.out; omega)).setOther ⟨N20, 1, none⟩ _ (by dsimp only; have := O20_ra.out; omega))
    have S_rs := Lib.hid (show Two V_s N17 (.int .i64 dn) (.int .i64 dd) 28 by rw [HV1.out]; exact (F22_rs.out.setOther ⟨N20, 0, none⟩ _ (by dsimp only; have := O20_rs.out; omega)).setOther ⟨N20, 1, none⟩ _ (by dsimp only; have := O20_rs.out; omega))
    have S_rm := Lib.hid (show Two V_s N19 (.int .i64 mn) (.int .i64 md) 28 by rw [HV1.out]; exact (F22_rm.out.setOther ⟨N20, 0, none⟩ _ (by dsimp only; have := O20_rm.out; omega)).setOther ⟨N20, 1, none⟩ _ (by dsimp only; have := O20_rm.out; omega))
    have S_rd := Lib.hid (show Two V_s N20 (.int .i64 qn) (.int .i64 qd) 28 by rw [HV1.out]; exact (F22_rd.out.set0 _).set1 _)
    have SX_x := Lib.hid (show IsRQ V_s (.agg #[.bool px5.1, .slice Ax5 nx5 cx5, .bool px6.1, .slice Ax6 nx6 cx6]) p q 5 from OX20_x.out.below (show Below U19.heap.size U19 V_s by rw [HV1.out]; exact (R22_ov.out.setCell (by dsimp only; exact OE20.out) _).setCell (by dsimp only; exact OE20.out) _))
    have SX_y := Lib.hid (show IsRQ V_s (.agg #[.bool py5.1, .slice Ay5 ny5 cy5, .bool py6.1, .slice Ay6 ny6 cy6]) r s 5 from OX20_y.out.below (show Below U19.heap.size U19 V_s by rw [HV1.out]; exact (R22_ov.out.setCell (by dsimp only; exact OE20.out) _).setCell (by dsimp only; exact OE20.out) _))
    have SB_ := Lib.hid (show Below w.heap.size w V_s by rw [HV1.out]; exact (B22_.out.setCell (by dsimp only; exact OW20.out) _).setCell (by dsimp only; exact OW20.out) _)
    clear HV1 F22_p F22_r F22_s F22_d F22_m F22_q F22_z F22_X F22_Y F22_ra F22_rs F22_rm F22_rd B22_ X22_x X22_y
    have k0_0 := S_s.out.cell0
    have k0_1 := S_s.out.cell1
    have k1_0 := S_d.out.cell0
    have k1_1 := S_d.out.cell1
    have k2_0 := S_m.out.cell0
    have k2_1 := S_m.out.cell1
    have k3_0 := S_q.out.cell0
    have k3_1 := S_q.out.cell1
    have k4_0 := S_ra.out.cell0
    have k4_1 := S_ra.out.cell1
    have k5_0 := S_rs.out.cell0
    have k5_1 := S_rs.out.cell1
    have k6_0 := S_rm.out.cell0
    have k6_1 := S_rm.out.cell1
    have k7_0 := S_rd.out.cell0
    have k7_1 := S_rd.out.cell1
    have k8_0 := S_X.out.cell0
    have k8_1 := S_X.out.cell1
    have k8_2 := S_X.out.cell2
    have k8_3 := S_X.out.cell3
    have k9_0 := S_Y.out.cell0
    have k9_1 := S_Y.out.cell1
    have k9_2 := S_Y.out.cell2
    have k9_3 := S_Y.out.cell3
    have hb230 := Below.refl V_s.heap.size V_s
    have hw230 := SB_.out
    have cc := ci1 V_s hw230
    go_wp2_with fail
    refine cc.mono ?_
    rintro e V231 ⟨v231, rfl, hm231, hn231⟩
    have hb231 := hb230.trans (hn231.mono hb230.size)
    have hw231 := hw230.trans (hn231.mono hw230.size)
    subst hm231
    clear cc hb230 hw230 hn231
    clear k0_0 k0_1 k1_0 k1_1 k2_0 k2_1 k3_0 k3_1 k4_0 k4_1 k5_0 k5_1 k6_0 k6_1 k7_0 k7_1 k8_0 k8_1 k8_2 k8_3 k9_0 k9_1 k9_2 k9_3
    have k0_0 := (S_s.out.below hb231 S_s.out.lt).cell0
    have k0_1 := (S_s.out.below hb231 S_s.out.lt).cell1
    have k1_0 := (S_d.out.below hb231 S_d.out.lt).cell0
    have k1_1 := (S_d.out.below hb231 S_d.out.lt).cell1
    have k2_0 := (S_m.out.below hb231 S_m.out.lt).cell0
    have k2_1 := (S_m.out.below hb231 S_m.out.lt).cell1
    have k3_0 := (S_q.out.below hb231 S_q.out.lt).cell0
    have k3_1 := (S_q.out.below hb231 S_q.out.lt).cell1
    have k4_0 := (S_ra.out.below hb231 S_ra.out.lt).cell0
    have k4_1 := (S_ra.out.below hb231 S_ra.out.lt).cell1
    have k5_0 := (S_rs.out.below hb231 S_rs.out.lt).cell0
    have k5_1 := (S_rs.out.below hb231 S_rs.out.lt).cell1
    have k6_0 := (S_rm.out.below hb231 S_rm.out.lt).cell0
    have k6_1 := (S_rm.out.below hb231 S_rm.out.lt).cell1
    have k7_0 := (S_rd.out.below hb231 S_rd.out.lt).cell0
    have k7_1 := (S_rd.out.below hb231 S_rd.out.lt).cell1
    have k8_0 := (S_X.out.below hb231 S_X.out.lt).cell0
    have k8_1 := (S_X.out.below hb231 S_X.out.lt).cell1
    have k8_2 := (S_X.out.below hb231 S_X.out.lt).cell2
    have k8_3 := (S_X.out.below hb231 S_X.out.lt).cell3
    have k9_0 := (S_Y.out.below hb231 S_Y.out.lt).cell0
    have k9_1 := (S_Y.out.below hb231 S_Y.out.lt).cell1
    have k9_2 := (S_Y.out.below hb231 S_Y.out.lt).cell2
    have k9_3 := (S_Y.out.below hb231 S_Y.out.lt).cell3
    have cc := ci2 V231 hw231
    go_wp2_with fail
    refine cc.mono ?_
    rintro e V232 ⟨v232, rfl, hm232, hn232⟩
    have hb232 := hb231.trans (hn232.mono hb231.size)
    have hw232 := hw231.trans (hn232.mono hw231.size)
    subst hm232
    clear cc hb231 hw231 hn232
    clear k0_0 k0_1 k1_0 k1_1 k2_0 k2_1 k3_0 k3_1 k4_0 k4_1 k5_0 k5_1 k6_0 k6_1 k7_0 k7_1 k8_0 k8_1 k8_2 k8_3 k9_0 k9_1 k9_2 k9_3
    have k0_0 := (S_s.out.below hb232 S_s.out.lt).cell0
    have k0_1 := (S_s.out.below hb232 S_s.out.lt).cell1
    have k1_0 := (S_d.out.below hb232 S_d.out.lt).cell0
    have k1_1 := (S_d.out.below hb232 S_d.out.lt).cell1
    have k2_0 := (S_m.out.below hb232 S_m.out.lt).cell0
    have k2_1 := (S_m.out.below hb232 S_m.out.lt).cell1
    have k3_0 := (S_q.out.below hb232 S_q.out.lt).cell0
    have k3_1 := (S_q.out.below hb232 S_q.out.lt).cell1
    have k4_0 := (S_ra.out.below hb232 S_ra.out.lt).cell0
    have k4_1 := (S_ra.out.below hb232 S_ra.out.lt).cell1
    have k5_0 := (S_rs.out.below hb232 S_rs.out.lt).cell0
    have k5_1 := (S_rs.out.below hb232 S_rs.out.lt).cell1
    have k6_0 := (S_rm.out.below hb232 S_rm.out.lt).cell0
    have k6_1 := (S_rm.out.below hb232 S_rm.out.lt).cell1
    have k7_0 := (S_rd.out.below hb232 S_rd.out.lt).cell0
    have k7_1 := (S_rd.out.below hb232 S_rd.out.lt).cell1
    have k8_0 := (S_X.out.below hb232 S_X.out.lt).cell0
    have k8_1 := (S_X.out.below hb232 S_X.out.lt).cell1
    have k8_2 := (S_X.out.below hb232 S_X.out.lt).cell2
    have k8_3 := (S_X.out.below hb232 S_X.out.lt).cell3
    have k9_0 := (S_Y.out.below hb232 S_Y.out.lt).cell0
    have k9_1 := (S_Y.out.below hb232 S_Y.out.lt).cell1
    have k9_2 := (S_Y.out.below hb232 S_Y.out.lt).cell2
    have k9_3 := (S_Y.out.below hb232 S_Y.out.lt).cell3
    have cc := ci3 V232 hw232
    go_wp2_with fail
    refine cc.mono ?_
    rintro e V233 ⟨v233, rfl, hm233, hn233⟩
    have hb233 := hb232.trans (hn233.mono hb232.size)
    have hw233 := hw232.trans (hn233.mono hw232.size)
    subst hm233
    clear cc hb232 hw232 hn233
    clear k0_0 k0_1 k1_0 k1_1 k2_0 k2_1 k3_0 k3_1 k4_0 k4_1 k5_0 k5_1 k6_0 k6_1 k7_0 k7_1 k8_0 k8_1 k8_2 k8_3 k9_0 k9_1 k9_2 k9_3
    have k0_0 := (S_s.out.below hb233 S_s.out.lt).cell0
    have k0_1 := (S_s.out.below hb233 S_s.out.lt).cell1
    have k1_0 := (S_d.out.below hb233 S_d.out.lt).cell0
    have k1_1 := (S_d.out.below hb233 S_d.out.lt).cell1
    have k2_0 := (S_m.out.below hb233 S_m.out.lt).cell0
    have k2_1 := (S_m.out.below hb233 S_m.out.lt).cell1
    have k3_0 := (S_q.out.below hb233 S_q.out.lt).cell0
    have k3_1 := (S_q.out.below hb233 S_q.out.lt).cell1
    have k4_0 := (S_ra.out.below hb233 S_ra.out.lt).cell0
    have k4_1 := (S_ra.out.below hb233 S_ra.out.lt).cell1
    have k5_0 := (S_rs.out.below hb233 S_rs.out.lt).cell0
    have k5_1 := (S_rs.out.below hb233 S_rs.out.lt).cell1
    have k6_0 := (S_rm.out.below hb233 S_rm.out.lt).cell0
    have k6_1 := (S_rm.out.below hb233 S_rm.out.lt).cell1
    have k7_0 := (S_rd.out.below hb233 S_rd.out.lt).cell0
    have k7_1 := (S_rd.out.below hb233 S_rd.out.lt).cell1
    have k8_0 := (S_X.out.below hb233 S_X.out.lt).cell0
    have k8_1 := (S_X.out.below hb233 S_X.out.lt).cell1
    have k8_2 := (S_X.out.below hb233 S_X.out.lt).cell2
    have k8_3 := (S_X.out.below hb233 S_X.out.lt).cell3
    have k9_0 := (S_Y.out.below hb233 S_Y.out.lt).cell0
    have k9_1 := (S_Y.out.below hb233 S_Y.out.lt).cell1
    have k9_2 := (S_Y.out.below hb233 S_Y.out.lt).cell2
    have k9_3 := (S_Y.out.below hb233 S_Y.out.lt).cell3
    have cc := ci4 V233 hw233
    go_wp2_with fail
    refine cc.mono ?_
    rintro e V234 ⟨v234, rfl, hm234, hn234⟩
    have hb234 := hb233.trans (hn234.mono hb233.size)
    have hw234 := hw233.trans (hn234.mono hw233.size)
    subst hm234
    clear cc hb233 hw233 hn234
    clear k0_0 k0_1 k1_0 k1_1 k2_0 k2_1 k3_0 k3_1 k4_0 k4_1 k5_0 k5_1 k6_0 k6_1 k7_0 k7_1 k8_0 k8_1 k8_2 k8_3 k9_0 k9_1 k9_2 k9_3
    have k0_0 := (S_s.out.below hb234 S_s.out.lt).cell0
    have k0_1 := (S_s.out.below hb234 S_s.out.lt).cell1
    have k1_0 := (S_d.out.below hb234 S_d.out.lt).cell0
    have k1_1 := (S_d.out.below hb234 S_d.out.lt).cell1
    have k2_0 := (S_m.out.below hb234 S_m.out.lt).cell0
    have k2_1 := (S_m.out.below hb234 S_m.out.lt).cell1
    have k3_0 := (S_q.out.below hb234 S_q.out.lt).cell0
    have k3_1 := (S_q.out.below hb234 S_q.out.lt).cell1
    have k4_0 := (S_ra.out.below hb234 S_ra.out.lt).cell0
    have k4_1 := (S_ra.out.below hb234 S_ra.out.lt).cell1
    have k5_0 := (S_rs.out.below hb234 S_rs.out.lt).cell0
    have k5_1 := (S_rs.out.below hb234 S_rs.out.lt).cell1
    have k6_0 := (S_rm.out.below hb234 S_rm.out.lt).cell0
    have k6_1 := (S_rm.out.below hb234 S_rm.out.lt).cell1
    have k7_0 := (S_rd.out.below hb234 S_rd.out.lt).cell0
    have k7_1 := (S_rd.out.below hb234 S_rd.out.lt).cell1
    have k8_0 := (S_X.out.below hb234 S_X.out.lt).cell0
    have k8_1 := (S_X.out.below hb234 S_X.out.lt).cell1
    have k8_2 := (S_X.out.below hb234 S_X.out.lt).cell2
    have k8_3 := (S_X.out.below hb234 S_X.out.lt).cell3
    have k9_0 := (S_Y.out.below hb234 S_Y.out.lt).cell0
    have k9_1 := (S_Y.out.below hb234 S_Y.out.lt).cell1
    have k9_2 := (S_Y.out.below hb234 S_Y.out.lt).cell2
    have k9_3 := (S_Y.out.below hb234 S_Y.out.lt).cell3
    have cc := ccm V234 hw234 _ _ (SX_x.out.below hb234) (SX_y.out.below hb234)
    go_wp2_with fail
    refine cc.mono ?_
    rintro e V235 ⟨v235, rfl, hm235, hn235⟩
    have hb235 := hb234.trans (hn235.mono hb234.size)
    have hw235 := hw234.trans (hn235.mono hw234.size)
    subst hm235
    clear cc hb234 hw234 hn235
    clear k0_0 k0_1 k1_0 k1_1 k2_0 k2_1 k3_0 k3_1 k4_0 k4_1 k5_0 k5_1 k6_0 k6_1 k7_0 k7_1 k8_0 k8_1 k8_2 k8_3 k9_0 k9_1 k9_2 k9_3
    have k0_0 := (S_s.out.below hb235 S_s.out.lt).cell0
    have k0_1 := (S_s.out.below hb235 S_s.out.lt).cell1
    have k1_0 := (S_d.out.below hb235 S_d.out.lt).cell0
    have k1_1 := (S_d.out.below hb235 S_d.out.lt).cell1
    have k2_0 := (S_m.out.below hb235 S_m.out.lt).cell0
    have k2_1 := (S_m.out.below hb235 S_m.out.lt).cell1
    have k3_0 := (S_q.out.below hb235 S_q.out.lt).cell0
    have k3_1 := (S_q.out.below hb235 S_q.out.lt).cell1
    have k4_0 := (S_ra.out.below hb235 S_ra.out.lt).cell0
    have k4_1 := (S_ra.out.below hb235 S_ra.out.lt).cell1
    have k5_0 := (S_rs.out.below hb235 S_rs.out.lt).cell0
    have k5_1 := (S_rs.out.below hb235 S_rs.out.lt).cell1
    have k6_0 := (S_rm.out.below hb235 S_rm.out.lt).cell0
    have k6_1 := (S_rm.out.below hb235 S_rm.out.lt).cell1
    have k7_0 := (S_rd.out.below hb235 S_rd.out.lt).cell0
    have k7_1 := (S_rd.out.below hb235 S_rd.out.lt).cell1
    have k8_0 := (S_X.out.below hb235 S_X.out.lt).cell0
    have k8_1 := (S_X.out.below hb235 S_X.out.lt).cell1
    have k8_2 := (S_X.out.below hb235 S_X.out.lt).cell2
    have k8_3 := (S_X.out.below hb235 S_X.out.lt).cell3
    have k9_0 := (S_Y.out.below hb235 S_Y.out.lt).cell0
    have k9_1 := (S_Y.out.below hb235 S_Y.out.lt).cell1
    have k9_2 := (S_Y.out.below hb235 S_Y.out.lt).cell2
    have k9_3 := (S_Y.out.below hb235 S_Y.out.lt).cell3
    have cc := cl V235 hw235
    go_wp2_with fail
    refine cc.mono ?_
    rintro e V236 ⟨v236, rfl, hm236, hn236⟩
    have hb236 := hb235.trans (hn236.mono hb235.size)
    have hw236 := hw235.trans (hn236.mono hw235.size)
    subst hm236
    clear cc hb235 hw235 hn236
    clear k0_0 k0_1 k1_0 k1_1 k2_0 k2_1 k3_0 k3_1 k4_0 k4_1 k5_0 k5_1 k6_0 k6_1 k7_0 k7_1 k8_0 k8_1 k8_2 k8_3 k9_0 k9_1 k9_2 k9_3
    have k0_0 := (S_s.out.below hb236 S_s.out.lt).cell0
    have k0_1 := (S_s.out.below hb236 S_s.out.lt).cell1
    have k1_0 := (S_d.out.below hb236 S_d.out.lt).cell0
    have k1_1 := (S_d.out.below hb236 S_d.out.lt).cell1
    have k2_0 := (S_m.out.below hb236 S_m.out.lt).cell0
    have k2_1 := (S_m.out.below hb236 S_m.out.lt).cell1
    have k3_0 := (S_q.out.below hb236 S_q.out.lt).cell0
    have k3_1 := (S_q.out.below hb236 S_q.out.lt).cell1
    have k4_0 := (S_ra.out.below hb236 S_ra.out.lt).cell0
    have k4_1 := (S_ra.out.below hb236 S_ra.out.lt).cell1
    have k5_0 := (S_rs.out.below hb236 S_rs.out.lt).cell0
    have k5_1 := (S_rs.out.below hb236 S_rs.out.lt).cell1
    have k6_0 := (S_rm.out.below hb236 S_rm.out.lt).cell0
    have k6_1 := (S_rm.out.below hb236 S_rm.out.lt).cell1
    have k7_0 := (S_rd.out.below hb236 S_rd.out.lt).cell0
    have k7_1 := (S_rd.out.below hb236 S_rd.out.lt).cell1
    have k8_0 := (S_X.out.below hb236 S_X.out.lt).cell0
    have k8_1 := (S_X.out.below hb236 S_X.out.lt).cell1
    have k8_2 := (S_X.out.below hb236 S_X.out.lt).cell2
    have k8_3 := (S_X.out.below hb236 S_X.out.lt).cell3
    have k9_0 := (S_Y.out.below hb236 S_Y.out.lt).cell0
    have k9_1 := (S_Y.out.below hb236 S_Y.out.lt).cell1
    have k9_2 := (S_Y.out.below hb236 S_Y.out.lt).cell2
    have k9_3 := (S_Y.out.below hb236 S_Y.out.lt).cell3
    have HE := Lib.hid hw236
    clear hb236 hw236
    go_wp2
    go_ret
    exact ⟨rfl, HE.out⟩

set_option maxRecDepth 100000 in
set_option maxHeartbeats 12800000 in
theorem adds_good2 (p q r s : Int) (w : World) (h1 : FOk (p, q)) (h2 : FOk (r, s)) (h0 : r < 0) :
    Calls Tryz.prog 7 #[.agg #[.int .i64 p, .int .i64 q], .agg #[.int .i64 r, .int .i64 s]] w (RetV (.bool true) w) := by
  obtain ⟨sn, sd, se, hv1⟩ := lowV_form (p * s + r * q) (q * s)
  obtain ⟨dn, dd, de, hv2⟩ := lowV_form (p * s - r * q) (q * s)
  obtain ⟨mn, md, me, hv3⟩ := lowV_form (p * r) (q * s)
  obtain ⟨qn, qd, qe, hv4⟩ : ∃ n d e : Int, lowV (-(p * s)) (-(q * r)) = .tuple #[.agg #[.int .i64 n, .int .i64 d], .int .i64 e] := lowV_form _ _
  obtain ⟨sg, hsg⟩ : ∃ sg, sg = sgn (p * s - r * q) := ⟨_, rfl⟩
  have q0 : 0 < q := by have := h1.1; simp at this; omega
  have s0 : 0 < s := by have := h2.1; simp at this; omega
  have qs0 : 0 < q * s := Int.mul_pos q0 s0
  have i1 := i64_lowf h1
  have i2 := i64_lowf h2
  have qr0 : q * r < 0 := Int.mul_neg_of_pos_of_neg q0 h0
  have qr1 : 0 < -(q * r) := by omega
  have c1 : ∀ W (_ : Below w.heap.size w W), Calls Tryz.prog 36 #[.agg #[.int .i64 p, .int .i64 q], .agg #[.int .i64 r, .int .i64 s]] W (RetW (.tuple #[.agg #[.int .i64 sn, .int .i64 sd], .int .i64 se]) W) := fun W _ => by
    rw [← hv1]
    exact (gadd_ok p q r s W i1.1 i1.2 i2.1 i2.2 h1 h2).mono fun e w' h => RetW.of h
  have c2 : ∀ W (_ : Below w.heap.size w W), Calls Tryz.prog 34 #[.agg #[.int .i64 p, .int .i64 q], .agg #[.int .i64 r, .int .i64 s]] W (RetW (.tuple #[.agg #[.int .i64 dn, .int .i64 dd], .int .i64 de]) W) := fun W _ => by
    rw [← hv2]
    exact (gsub_ok p q r s W h1 h2).mono fun e w' h => RetW.of h
  have c3 : ∀ W (_ : Below w.heap.size w W), Calls Tryz.prog 37 #[.agg #[.int .i64 p, .int .i64 q], .agg #[.int .i64 r, .int .i64 s]] W (RetW (.tuple #[.agg #[.int .i64 mn, .int .i64 md], .int .i64 me]) W) := fun W _ => by
    rw [← hv3]
    exact (gmul_ok p q r s W i1.1 i1.2 i2.1 i2.2 h1 h2).mono fun e w' h => RetW.of h
  have c4 : ∀ W (_ : Below w.heap.size w W), Calls Tryz.prog 35 #[.agg #[.int .i64 p, .int .i64 q], .agg #[.int .i64 r, .int .i64 s]] W (RetW (.tuple #[.agg #[.int .i64 qn, .int .i64 qd], .int .i64 qe]) W) := fun W _ => by
    rw [← hv4]
    exact (gdiv_neg p q r s W h1 h2 h0).mono fun e w' h => RetW.of h
  have c5 : ∀ W (_ : Below w.heap.size w W), Calls Tryz.prog 38 #[.agg #[.int .i64 p, .int .i64 q], .agg #[.int .i64 r, .int .i64 s]] W (RetW (.tuple #[.int .i64 sg, .int .i64 0]) W) := fun W _ => by
    rw [← (show sgn (p * s - r * q) = sg from hsg.symm)]
    exact (gcmp_ok p q r s W i1.1 i1.2 i2.1 i2.2 h1 h2).mono fun e w' h => RetW.of h
  have cv1 := valid_y p q true (decide_eq_true h1) (w := w)
  have cv2 := valid_y r s true (decide_eq_true h2) (w := w)
  have co1 : ∀ W (_ : Below w.heap.size w W), Calls Tryz.prog 22 #[.agg #[.int .i64 p, .int .i64 q]] W (RetRQ p q 5 W) := fun W _ => of_any' p q W i1.1 i1.2
  have co2 : ∀ W (_ : Below w.heap.size w W), Calls Tryz.prog 22 #[.agg #[.int .i64 r, .int .i64 s]] W (RetRQ r s 5 W) := fun W _ => of_any' r s W i2.1 i2.2
  have cqa : ∀ W (_ : Below w.heap.size w W) u v, IsRQ W u p q 5 → IsRQ W v r s 5 → Calls Tryz.prog 39 #[u, v] W (RetRQ (p * s + r * q) (q * s) 12 W) := fun W _ u v g1 g2 => raddq_any g1 g2 (by omega) (by omega)
  have cfa : ∀ W (_ : Below w.heap.size w W) u, IsRQ W u (p * s + r * q) (q * s) 12 → Calls Tryz.prog 16 #[u] W (RetW (.tuple #[.agg #[.int .i64 sn, .int .i64 sd], .int .i64 se]) W) := fun W _ u g => by
    have := rfrac_any g (by omega) qs0
    rw [hv1] at this
    exact this.mono fun e w' h => RetW.of h
  have cqs : ∀ W (_ : Below w.heap.size w W) u v, IsRQ W u p q 5 → IsRQ W v r s 5 → Calls Tryz.prog 40 #[u, v] W (RetRQ (p * s - r * q) (q * s) 12 W) := fun W _ u v g1 g2 => rsubq_any g1 g2 (by omega) (by omega)
  have cfs : ∀ W (_ : Below w.heap.size w W) u, IsRQ W u (p * s - r * q) (q * s) 12 → Calls Tryz.prog 16 #[u] W (RetW (.tuple #[.agg #[.int .i64 dn, .int .i64 dd], .int .i64 de]) W) := fun W _ u g => by
    have := rfrac_any g (by omega) qs0
    rw [hv2] at this
    exact this.mono fun e w' h => RetW.of h
  have cqm : ∀ W (_ : Below w.heap.size w W) u v, IsRQ W u p q 5 → IsRQ W v r s 5 → Calls Tryz.prog 41 #[u, v] W (RetRQ (p * r) (q * s) 11 W) := fun W _ u v g1 g2 => rmulq_any g1 g2 (by omega) (by omega)
  have cfm : ∀ W (_ : Below w.heap.size w W) u, IsRQ W u (p * r) (q * s) 11 → Calls Tryz.prog 16 #[u] W (RetW (.tuple #[.agg #[.int .i64 mn, .int .i64 md], .int .i64 me]) W) := fun W _ u g => by
    have := rfrac_any g (by omega) qs0
    rw [hv3] at this
    exact this.mono fun e w' h => RetW.of h
  have cqd : ∀ W (_ : Below w.heap.size w W) u v, IsRQ W u p q 5 → IsRQ W v r s 5 → Calls Tryz.prog 42 #[u, v] W (RetRQ (-(p * s)) (-(q * r)) 11 W) := fun W _ u v g1 g2 => rdiv_neg g1 g2 (by omega) (by omega) qr0
  have cfd : ∀ W (_ : Below w.heap.size w W) u, IsRQ W u (-(p * s)) (-(q * r)) 11 → Calls Tryz.prog 16 #[u] W (RetW (.tuple #[.agg #[.int .i64 qn, .int .i64 qd], .int .i64 qe]) W) := fun W _ u g => by
    have := rfrac_any g (by omega) qr1
    rw [hv4] at this
    exact this.mono fun e w' h => RetW.of h
  have ccm : ∀ W (_ : Below w.heap.size w W) u v, IsRQ W u p q 5 → IsRQ W v r s 5 → Calls Tryz.prog 21 #[u, v] W (RetW (.int .i64 sg) W) := fun W _ u v g1 g2 => by
    rw [hsg]
    exact (rcmpq_any g1 g2 (by omega) (by omega)).mono fun e w' h => RetW.of h
  have ci1 := is_w sn sd se (w := w)
  have ci2 := is_w dn dd de (w := w)
  have ci3 := is_w mn md me (w := w)
  have ci4 := is_w qn qd qe (w := w)
  have cl := lives_y (w := w)
  have hr0 : ¬ r = 0 := by omega
  have hr1 : (r != 0) = true := by simpa using hr0
  clear h1 h2 hv1 hv2 hv3 q0 s0 qs0 i1 i2 hsg hv4 qr0 qr1 h0
  obtain ⟨W3, hW3⟩ : ∃ W3, W3 = ((w.alloc (.cells #[.int .i64 p, .int .i64 q] 28)).alloc (.cells #[.int .i64 r, .int .i64 s] 28)) := ⟨_, rfl⟩
  have hB : Below w.heap.size w W3 := by rw [hW3]; exact (((Below.refl _ _).alloc (Nat.le_refl _) _).alloc (by simp; try omega) _)
  have HBW := Lib.hid hB
  have HF := Lib.hid (show Two W3 (w.heap.size) (.int .i64 p) (.int .i64 q) 28 by rw [hW3]; exact (((Two.newAt _ _ _ _ _ (by simp))).alloc _))
  have HG := Lib.hid (show Two W3 (w.heap.size + 1) (.int .i64 r) (.int .i64 s) 28 by rw [hW3]; exact (Two.newAt _ _ _ _ _ (by simp)))
  clear hB
  go_enter Tryz.func7, Tryz.ntmps7
  go_upto_region 1 with fail
  rw [← hW3]
  clear hW3
  have k0_0 := HF.out.cell0
  have k0_1 := HF.out.cell1
  have k1_0 := HG.out.cell0
  have k1_1 := HG.out.cell1
  have hb10 := Below.refl W3.heap.size W3
  have hw10 := HBW.out
  have cc := c1 W3 hw10
  go_wp2_with fail
  refine cc.mono ?_
  rintro e V11 ⟨v11, rfl, hm11, hn11⟩
  have hb11 := hb10.trans (hn11.mono hb10.size)
  have hw11 := hw10.trans (hn11.mono hw10.size)
  subst hm11
  clear cc hb10 hw10 hn11
  clear k0_0 k0_1 k1_0 k1_1
  have k0_0 := (HF.out.below hb11 HF.out.lt).cell0
  have k0_1 := (HF.out.below hb11 HF.out.lt).cell1
  have k1_0 := (HG.out.below hb11 HG.out.lt).cell0
  have k1_1 := (HG.out.below hb11 HG.out.lt).cell1
  obtain ⟨N2, hNB⟩ : ∃ N2, N2 = V11.heap.size := ⟨_, rfl⟩
  obtain ⟨U2, hU⟩ : ∃ U2, U2 = V11.alloc (.cells #[.int .i64 sn, .int .i64 sd] 28) := ⟨_, rfl⟩
  have HU := Lib.hid (show U2 = _ ∧ N2 = _ from ⟨hU, hNB⟩)
  clear hU hNB
  go_upto_region 2 with fail
  clear k0_0 k0_1 k1_0 k1_1
  rw [← HU.out.2, ← HU.out.1]
  have hbU := hb11.alloc hb11.size (.cells #[.int .i64 sn, .int .i64 sd] 28)
  have hwU := hw11.alloc hw11.size (.cells #[.int .i64 sn, .int .i64 sd] 28)
  rw [← HU.out.1] at hbU hwU
  have F2_p := Lib.hid (HF.out.below hbU HF.out.lt)
  have F2_r := Lib.hid (HG.out.below hbU HG.out.lt)
  have F2_s := Lib.hid (show Two U2 N2 (.int .i64 sn) (.int .i64 sd) 28 by rw [HU.out.1, HU.out.2]; exact Two.newAt _ _ _ _ _ rfl)
  have B2_ := Lib.hid hwU
  clear HU hbU hwU hb11 hw11 HF HG HBW
  have k0_0 := F2_p.out.cell0
  have k0_1 := F2_p.out.cell1
  have k1_0 := F2_r.out.cell0
  have k1_1 := F2_r.out.cell1
  have hb30 := Below.refl U2.heap.size U2
  have hw30 := B2_.out
  have cc := c2 U2 hw30
  go_wp2_with fail
  refine cc.mono ?_
  rintro e V31 ⟨v31, rfl, hm31, hn31⟩
  have hb31 := hb30.trans (hn31.mono hb30.size)
  have hw31 := hw30.trans (hn31.mono hw30.size)
  subst hm31
  clear cc hb30 hw30 hn31
  clear k0_0 k0_1 k1_0 k1_1
  have k0_0 := (F2_p.out.below hb31 F2_p.out.lt).cell0
  have k0_1 := (F2_p.out.below hb31 F2_p.out.lt).cell1
  have k1_0 := (F2_r.out.below hb31 F2_r.out.lt).cell0
  have k1_1 := (F2_r.out.below hb31 F2_r.out.lt).cell1
  obtain ⟨N4, hNB⟩ : ∃ N4, N4 = V31.heap.size := ⟨_, rfl⟩
  obtain ⟨U4, hU⟩ : ∃ U4, U4 = V31.alloc (.cells #[.int .i64 dn, .int .i64 dd] 28) := ⟨_, rfl⟩
  have HU := Lib.hid (show U4 = _ ∧ N4 = _ from ⟨hU, hNB⟩)
  clear hU hNB
  go_upto_region 3 with fail
  clear k0_0 k0_1 k1_0 k1_1
  rw [← HU.out.2, ← HU.out.1]
  have hbU := hb31.alloc hb31.size (.cells #[.int .i64 dn, .int .i64 dd] 28)
  have hwU := hw31.alloc hw31.size (.cells #[.int .i64 dn, .int .i64 dd] 28)
  rw [← HU.out.1] at hbU hwU
  have F4_p := Lib.hid (F2_p.out.below hbU F2_p.out.lt)
  have F4_r := Lib.hid (F2_r.out.below hbU F2_r.out.lt)
  have F4_s := Lib.hid (F2_s.out.below hbU F2_s.out.lt)
  have F4_d := Lib.hid (show Two U4 N4 (.int .i64 dn) (.int .i64 dd) 28 by rw [HU.out.1, HU.out.2]; exact Two.newAt _ _ _ _ _ rfl)
  have B4_ := Lib.hid hwU
  clear HU hbU hwU hb31 hw31 F2_p F2_r F2_s B2_
  have k0_0 := F4_p.out.cell0
  have k0_1 := F4_p.out.cell1
  have k1_0 := F4_r.out.cell0
  have k1_1 := F4_r.out.cell1
  have hb50 := Below.refl U4.heap.size U4
  have hw50 := B4_.out
  have cc := c3 U4 hw50
  go_wp2_with fail
  refine cc.mono ?_
  rintro e V51 ⟨v51, rfl, hm51, hn51⟩
  have hb51 := hb50.trans (hn51.mono hb50.size)
  have hw51 := hw50.trans (hn51.mono hw50.size)
  subst hm51
  clear cc hb50 hw50 hn51
  clear k0_0 k0_1 k1_0 k1_1
  have k0_0 := (F4_p.out.below hb51 F4_p.out.lt).cell0
  have k0_1 := (F4_p.out.below hb51 F4_p.out.lt).cell1
  have k1_0 := (F4_r.out.below hb51 F4_r.out.lt).cell0
  have k1_1 := (F4_r.out.below hb51 F4_r.out.lt).cell1
  obtain ⟨N6, hNB⟩ : ∃ N6, N6 = V51.heap.size := ⟨_, rfl⟩
  obtain ⟨U6, hU⟩ : ∃ U6, U6 = V51.alloc (.cells #[.int .i64 mn, .int .i64 md] 28) := ⟨_, rfl⟩
  have HU := Lib.hid (show U6 = _ ∧ N6 = _ from ⟨hU, hNB⟩)
  clear hU hNB
  go_upto_region 4 with fail
  clear k0_0 k0_1 k1_0 k1_1
  rw [← HU.out.2, ← HU.out.1]
  have hbU := hb51.alloc hb51.size (.cells #[.int .i64 mn, .int .i64 md] 28)
  have hwU := hw51.alloc hw51.size (.cells #[.int .i64 mn, .int .i64 md] 28)
  rw [← HU.out.1] at hbU hwU
  have F6_p := Lib.hid (F4_p.out.below hbU F4_p.out.lt)
  have F6_r := Lib.hid (F4_r.out.below hbU F4_r.out.lt)
  have F6_s := Lib.hid (F4_s.out.below hbU F4_s.out.lt)
  have F6_d := Lib.hid (F4_d.out.below hbU F4_d.out.lt)
  have F6_m := Lib.hid (show Two U6 N6 (.int .i64 mn) (.int .i64 md) 28 by rw [HU.out.1, HU.out.2]; exact Two.newAt _ _ _ _ _ rfl)
  have B6_ := Lib.hid hwU
  clear HU hbU hwU hb51 hw51 F4_p F4_r F4_s F4_d B4_
  have k0_0 := F6_p.out.cell0
  have k0_1 := F6_p.out.cell1
  have k1_0 := F6_r.out.cell0
  have k1_1 := F6_r.out.cell1
  have hb70 := Below.refl U6.heap.size U6
  have hw70 := B6_.out
  have cc := c4 U6 hw70
  go_wp2_with fail
  refine cc.mono ?_
  rintro e V71 ⟨v71, rfl, hm71, hn71⟩
  have hb71 := hb70.trans (hn71.mono hb70.size)
  have hw71 := hw70.trans (hn71.mono hw70.size)
  subst hm71
  clear cc hb70 hw70 hn71
  clear k0_0 k0_1 k1_0 k1_1
  have k0_0 := (F6_p.out.below hb71 F6_p.out.lt).cell0
  have k0_1 := (F6_p.out.below hb71 F6_p.out.lt).cell1
  have k1_0 := (F6_r.out.below hb71 F6_r.out.lt).cell0
  have k1_1 := (F6_r.out.below hb71 F6_r.out.lt).cell1
  obtain ⟨N8, hNB⟩ : ∃ N8, N8 = V71.heap.size := ⟨_, rfl⟩
  obtain ⟨U8, hU⟩ : ∃ U8, U8 = V71.alloc (.cells #[.int .i64 qn, .int .i64 qd] 28) := ⟨_, rfl⟩
  have HU := Lib.hid (show U8 = _ ∧ N8 = _ from ⟨hU, hNB⟩)
  clear hU hNB
  go_upto_region 5 with fail
  clear k0_0 k0_1 k1_0 k1_1
  rw [← HU.out.2, ← HU.out.1]
  have hbU := hb71.alloc hb71.size (.cells #[.int .i64 qn, .int .i64 qd] 28)
  have hwU := hw71.alloc hw71.size (.cells #[.int .i64 qn, .int .i64 qd] 28)
  rw [← HU.out.1] at hbU hwU
  have F8_p := Lib.hid (F6_p.out.below hbU F6_p.out.lt)
  have F8_r := Lib.hid (F6_r.out.below hbU F6_r.out.lt)
  have F8_s := Lib.hid (F6_s.out.below hbU F6_s.out.lt)
  have F8_d := Lib.hid (F6_d.out.below hbU F6_d.out.lt)
  have F8_m := Lib.hid (F6_m.out.below hbU F6_m.out.lt)
  have F8_q := Lib.hid (show Two U8 N8 (.int .i64 qn) (.int .i64 qd) 28 by rw [HU.out.1, HU.out.2]; exact Two.newAt _ _ _ _ _ rfl)
  have B8_ := Lib.hid hwU
  clear HU hbU hwU hb71 hw71 F6_p F6_r F6_s F6_d F6_m B6_
  have k0_0 := F8_p.out.cell0
  have k0_1 := F8_p.out.cell1
  have k1_0 := F8_r.out.cell0
  have k1_1 := F8_r.out.cell1
  have hb90 := Below.refl U8.heap.size U8
  have hw90 := B8_.out
  have cc := c5 U8 hw90
  go_wp2_with fail
  refine cc.mono ?_
  rintro e V91 ⟨v91, rfl, hm91, hn91⟩
  have hb91 := hb90.trans (hn91.mono hb90.size)
  have hw91 := hw90.trans (hn91.mono hw90.size)
  subst hm91
  clear cc hb90 hw90 hn91
  clear k0_0 k0_1 k1_0 k1_1
  have k0_0 := (F8_p.out.below hb91 F8_p.out.lt).cell0
  have k0_1 := (F8_p.out.below hb91 F8_p.out.lt).cell1
  have k1_0 := (F8_r.out.below hb91 F8_r.out.lt).cell0
  have k1_1 := (F8_r.out.below hb91 F8_r.out.lt).cell1
  go_upto_region 6 with fail
  obtain ⟨N10, hNB⟩ : ∃ N10, N10 = V91.heap.size := ⟨_, rfl⟩
  obtain ⟨U10, hU⟩ : ∃ U10, U10 = V91.alloc (.cells #[.int .i64 0, .int .i64 0] 28) := ⟨_, rfl⟩
  have HU := Lib.hid (show U10 = _ ∧ N10 = _ from ⟨hU, hNB⟩)
  clear hU hNB
  go_upto_region 7 with fail
  clear k0_0 k0_1 k1_0 k1_1
  rw [← HU.out.2, ← HU.out.1]
  have hbU := hb91.alloc hb91.size (.cells #[.int .i64 0, .int .i64 0] 28)
  have hwU := hw91.alloc hw91.size (.cells #[.int .i64 0, .int .i64 0] 28)
  rw [← HU.out.1] at hbU hwU
  have F10_p := Lib.hid (F8_p.out.below hbU F8_p.out.lt)
  have F10_r := Lib.hid (F8_r.out.below hbU F8_r.out.lt)
  have F10_s := Lib.hid (F8_s.out.below hbU F8_s.out.lt)
  have F10_d := Lib.hid (F8_d.out.below hbU F8_d.out.lt)
  have F10_m := Lib.hid (F8_m.out.below hbU F8_m.out.lt)
  have F10_q := Lib.hid (F8_q.out.below hbU F8_q.out.lt)
  have F10_z := Lib.hid (show Two U10 N10 (.int .i64 0) (.int .i64 0) 28 by rw [HU.out.1, HU.out.2]; exact Two.newAt _ _ _ _ _ rfl)
  have B10_ := Lib.hid hwU
  clear HU hbU hwU hb91 hw91 F8_p F8_r F8_s F8_d F8_m F8_q B8_
  have k0_0 := F10_p.out.cell0
  have k0_1 := F10_p.out.cell1
  have k1_0 := F10_r.out.cell0
  have k1_1 := F10_r.out.cell1
  have hb110 := Below.refl U10.heap.size U10
  have hw110 := B10_.out
  have cc := cv1 U10 hw110
  go_wp2_with fail
  refine cc.mono ?_
  rintro e V111 ⟨v111, rfl, hm111, hn111⟩
  have hb111 := hb110.trans (hn111.mono hb110.size)
  have hw111 := hw110.trans (hn111.mono hw110.size)
  subst hm111
  clear cc hb110 hw110 hn111
  clear k0_0 k0_1 k1_0 k1_1
  have k0_0 := (F10_p.out.below hb111 F10_p.out.lt).cell0
  have k0_1 := (F10_p.out.below hb111 F10_p.out.lt).cell1
  have k1_0 := (F10_r.out.below hb111 F10_r.out.lt).cell0
  have k1_1 := (F10_r.out.below hb111 F10_r.out.lt).cell1
  have cc := cv2 V111 hw111
  go_wp2_with fail
  refine cc.mono ?_
  rintro e V112 ⟨v112, rfl, hm112, hn112⟩
  have hb112 := hb111.trans (hn112.mono hb111.size)
  have hw112 := hw111.trans (hn112.mono hw111.size)
  subst hm112
  clear cc hb111 hw111 hn112
  clear k0_0 k0_1 k1_0 k1_1
  have k0_0 := (F10_p.out.below hb112 F10_p.out.lt).cell0
  have k0_1 := (F10_p.out.below hb112 F10_p.out.lt).cell1
  have k1_0 := (F10_r.out.below hb112 F10_r.out.lt).cell0
  have k1_1 := (F10_r.out.below hb112 F10_r.out.lt).cell1
  clear k0_0 k0_1 k1_0 k1_1
  have F12_p := Lib.hid (F10_p.out.below hb112 F10_p.out.lt)
  have F12_r := Lib.hid (F10_r.out.below hb112 F10_r.out.lt)
  have F12_s := Lib.hid (F10_s.out.below hb112 F10_s.out.lt)
  have F12_d := Lib.hid (F10_d.out.below hb112 F10_d.out.lt)
  have F12_m := Lib.hid (F10_m.out.below hb112 F10_m.out.lt)
  have F12_q := Lib.hid (F10_q.out.below hb112 F10_q.out.lt)
  have F12_z := Lib.hid (F10_z.out.below hb112 F10_z.out.lt)
  have B12_ := Lib.hid hw112
  clear hb112 hw112 F10_p F10_r F10_s F10_d F10_m F10_q F10_z B10_
  clear c1 c2 c3 c4 c5 cv1 cv2
  go_upto_region 9 with fail
  refine Lex.wp_region_mix (fun w' => Two w' w.heap.size (.int .i64 p) (.int .i64 q) 28 ∧ Two w' (w.heap.size + 1) (.int .i64 r) (.int .i64 s) 28)
    [(0, 98), (1, 99), (2, 100), (3, 101), (4, 16), (5, 17)] (fun j => j == 0 || j == 2) (fun j => j == 4 || j == 5) [(6, false), (7, false)]
    (fun i v w' => match i with | 0 => v = .agg #[.int .i64 p, .int .i64 q] | 1 => IsRQ w' v p q 5 | 2 => v = .agg #[.int .i64 r, .int .i64 s] | 3 => IsRQ w' v r s 5 | 4 => ∃ B, v = .pointer (some ⟨B, 0, none⟩) ∧ V112.heap.size ≤ B ∧ Four w' B (.bool false) (.slice none 0 0) (.bool false) (.slice none 0 0) 40 | 5 => ∃ B, v = .pointer (some ⟨B, 0, none⟩) ∧ V112.heap.size ≤ B ∧ Four w' B (.bool false) (.slice none 0 0) (.bool false) (.slice none 0 0) 40 | _ => False)
    (by kernel_rfl) (by kernel_rfl) (by kernel_rfl) ⟨F12_p.out, F12_r.out⟩ (fun w1 w2 hS hb => ⟨hS.1.below hb hS.1.lt, hS.2.below hb hS.2.lt⟩) ?_ ?_ ?_
  · refine Lex.all_cons ?_ (Lex.all_cons ?_ (Lex.all_cons ?_ (Lex.all_cons ?_ (Lex.all_cons ?_ (Lex.all_cons ?_ (Lex.all_nil))))))
    · exact fun v w1 w2 h _ => h
    · exact fun v w1 w2 h hb => IsRQ.below h hb
    · exact fun v w1 w2 h _ => h
    · exact fun v w1 w2 h hb => IsRQ.below h hb
    · exact fun v w1 w2 ⟨B, hv, hl, hT⟩ hb => ⟨B, hv, hl, hT.below hb hT.lt⟩
    · exact fun v w1 w2 ⟨B, hv, hl, hT⟩ hb => ⟨B, hv, hl, hT.below hb hT.lt⟩
  · refine Lex.all_cons ?_ (Lex.all_cons ?_ (Lex.all_cons ?_ (Lex.all_cons ?_ (Lex.all_cons ?_ (Lex.all_cons ?_ (Lex.all_nil))))))
    · refine Lex.ob_eager rfl rfl (fun σ w1 hS hB hg => ⟨.agg #[.int .i64 p, .int .i64 q], rfl, fun w2 hS => ?_, rfl⟩)
      clear hg
      simp only [Lex.full, Act.put, List.setIfInBounds_toArray, List.set_cons_zero, List.set_cons_succ]
      have f0_0 := hS.1.cell0
      have f0_1 := hS.1.cell1
      clear hS
      go_simp
      all_goals with_reducible rfl
    · refine Lex.ob_step rfl rfl rfl (fun σ w1 hS hB hg K hK => ?_)
      have HK := Lib.hid hK
      clear hK
      have g0 : (σ 0) = .agg #[.int .i64 p, .int .i64 q] := hg (0, 98) (by simp) (by kernel_rfl)
      clear hg
      simp only [Lex.full, Act.put, List.setIfInBounds_toArray, List.set_cons_zero, List.set_cons_succ]
      simp only [g0]
      have hw1 : Below w.heap.size w w1 := B12_.out.drew.trans (hB.mono B12_.out.size)
      have cc := co1 w1 hw1
      go_wp2_with fail
      refine cc.mono ?_
      rintro e w2 ⟨v1, rfl, hm, hn⟩
      clear cc
      go_wp2_with fail
      exact HK.out _ _ ⟨rfl, hn, hm, fun h => nomatch h⟩
    · refine Lex.ob_eager rfl rfl (fun σ w1 hS hB hg => ⟨.agg #[.int .i64 r, .int .i64 s], rfl, fun w2 hS => ?_, rfl⟩)
      clear hg
      simp only [Lex.full, Act.put, List.setIfInBounds_toArray, List.set_cons_zero, List.set_cons_succ]
      have f1_0 := hS.2.cell0
      have f1_1 := hS.2.cell1
      clear hS
      go_simp
      all_goals with_reducible rfl
    · refine Lex.ob_step rfl rfl rfl (fun σ w1 hS hB hg K hK => ?_)
      have HK := Lib.hid hK
      clear hK
      have g2 : (σ 2) = .agg #[.int .i64 r, .int .i64 s] := hg (2, 100) (by simp) (by kernel_rfl)
      clear hg
      simp only [Lex.full, Act.put, List.setIfInBounds_toArray, List.set_cons_zero, List.set_cons_succ]
      simp only [g2]
      have hw1 : Below w.heap.size w w1 := B12_.out.drew.trans (hB.mono B12_.out.size)
      have cc := co2 w1 hw1
      go_wp2_with fail
      refine cc.mono ?_
      rintro e w2 ⟨v1, rfl, hm, hn⟩
      clear cc
      go_wp2_with fail
      exact HK.out _ _ ⟨rfl, hn, hm, fun h => nomatch h⟩
    · refine Lex.ob_step rfl rfl rfl (fun σ w1 hS hB hg K hK => ?_)
      have HK := Lib.hid hK
      clear hK
      clear hg
      simp only [Lex.full, Act.put, List.setIfInBounds_toArray, List.set_cons_zero, List.set_cons_succ]
      go_wp2_with fail
      refine HK.out _ _ ⟨rfl, (Below.refl _ _).alloc (Nat.le_refl _) _, ⟨w1.heap.size, rfl, show V112.heap.size ≤ _ from hB.size, Four.newAt _ _ _ _ _ _ _ rfl⟩, fun _ => ?_⟩
      refine Lex.all_cons ?_ (Lex.all_cons ?_ (Lex.all_cons ?_ (Lex.all_cons ?_ (Lex.all_cons ?_ (Lex.all_cons ?_ (Lex.all_nil))))))
      · intro u h; cases h
      · intro u h; cases h
      · intro u h; cases h
      · intro u h; cases h
      · rintro u _ ⟨B, rfl, _, hT⟩ he; have := hT.lt; have he : Value.pointer (some ⟨B, 0, none⟩) = .pointer (some ⟨w1.heap.size, 0, none⟩) := he; injection he with he; injection he with he; injection he with he; omega
      · rintro u _ ⟨B, rfl, _, hT⟩ he; have := hT.lt; have he : Value.pointer (some ⟨B, 0, none⟩) = .pointer (some ⟨w1.heap.size, 0, none⟩) := he; injection he with he; injection he with he; injection he with he; omega
    · refine Lex.ob_step rfl rfl rfl (fun σ w1 hS hB hg K hK => ?_)
      have HK := Lib.hid hK
      clear hK
      clear hg
      simp only [Lex.full, Act.put, List.setIfInBounds_toArray, List.set_cons_zero, List.set_cons_succ]
      go_wp2_with fail
      refine HK.out _ _ ⟨rfl, (Below.refl _ _).alloc (Nat.le_refl _) _, ⟨w1.heap.size, rfl, show V112.heap.size ≤ _ from hB.size, Four.newAt _ _ _ _ _ _ _ rfl⟩, fun _ => ?_⟩
      refine Lex.all_cons ?_ (Lex.all_cons ?_ (Lex.all_cons ?_ (Lex.all_cons ?_ (Lex.all_cons ?_ (Lex.all_cons ?_ (Lex.all_nil))))))
      · intro u h; cases h
      · intro u h; cases h
      · intro u h; cases h
      · intro u h; cases h
      · rintro u _ ⟨B, rfl, _, hT⟩ he; have := hT.lt; have he : Value.pointer (some ⟨B, 0, none⟩) = .pointer (some ⟨w1.heap.size, 0, none⟩) := he; injection he with he; injection he with he; injection he with he; omega
      · rintro u _ ⟨B, rfl, _, hT⟩ he; have := hT.lt; have he : Value.pointer (some ⟨B, 0, none⟩) = .pointer (some ⟨w1.heap.size, 0, none⟩) := he; injection he with he; injection he with he; injection he with he; omega
  · intro σ V13_ hS hB hg hd
    have e0 : (σ 0) = .agg #[.int .i64 p, .int .i64 q] := hg (0, 98) (by simp)
    have e1 : IsRQ V13_ (σ 1) p q 5 := hg (1, 99) (by simp)
    have e2 : (σ 2) = .agg #[.int .i64 r, .int .i64 s] := hg (2, 100) (by simp)
    have e3 : IsRQ V13_ (σ 3) r s 5 := hg (3, 101) (by simp)
    have e4 : ∃ B, (σ 4) = .pointer (some ⟨B, 0, none⟩) ∧ V112.heap.size ≤ B ∧ Four V13_ B (.bool false) (.slice none 0 0) (.bool false) (.slice none 0 0) 40 := hg (4, 16) (by simp)
    have e5 : ∃ B, (σ 5) = .pointer (some ⟨B, 0, none⟩) ∧ V112.heap.size ≤ B ∧ Four V13_ B (.bool false) (.slice none 0 0) (.bool false) (.slice none 0 0) 40 := hg (5, 17) (by simp)
    have n13_4_5 : σ 4 ≠ σ 5 := hd (4, 16) (by simp) (5, 17) (by simp) (by decide) rfl rfl
    clear hg hd
    simp only [Lex.full, Act.put, List.setIfInBounds_toArray, List.set_cons_zero, List.set_cons_succ]
    generalize σ 0 = s13_0 at *
    generalize σ 1 = s13_1 at *
    generalize σ 2 = s13_2 at *
    generalize σ 3 = s13_3 at *
    generalize σ 4 = s13_4 at *
    generalize σ 5 = s13_5 at *
    clear σ
    subst e0
    obtain ⟨px5, Ax5, nx5, cx5, px6, Ax6, nx6, cx6, rfl, hPx, hQx⟩ := IsRQ.open' e1
    have hX := (show IsRQ V13_ (.agg #[.bool px5.1, .slice Ax5 nx5 cx5, .bool px6.1, .slice Ax6 nx6 cx6]) p q 5 from ⟨px5.1, _, px6.1, _, rfl, hPx, hQx⟩)
    subst e2
    obtain ⟨py5, Ay5, ny5, cy5, py6, Ay6, ny6, cy6, rfl, hPy, hQy⟩ := IsRQ.open' e3
    have hY := (show IsRQ V13_ (.agg #[.bool py5.1, .slice Ay5 ny5 cy5, .bool py6.1, .slice Ay6 ny6 cy6]) r s 5 from ⟨py5.1, _, py6.1, _, rfl, hPy, hQy⟩)
    obtain ⟨B13_4, rfl, l13_4, T4⟩ := e4
    have HT13_4 := Lib.hid T4
    clear T4
    obtain ⟨B13_5, rfl, l13_5, T5⟩ := e5
    have HT13_5 := Lib.hid T5
    clear T5
    replace n13_4_5 : B13_4 ≠ B13_5 := fun e => n13_4_5 (by rw [e])
    have HBm := Lib.hid (show Below w.heap.size w V13_ from B12_.out.drew.trans (hB.mono B12_.out.size))
    have HBb := Lib.hid (show Below V112.heap.size V112 V13_ from ⟨hB.os, hB.tape, hB.output, hB.size, hB.block⟩)
    have HSm := Lib.hid hS
    clear hB hS
    have l13_p := F12_p.out.lt
    have G13_p := Lib.hid HSm.out.1
    have l13_r := F12_r.out.lt
    have G13_r := Lib.hid HSm.out.2
    have l13_s := F12_s.out.lt
    have G13_s := Lib.hid (F12_s.out.below HBb.out F12_s.out.lt)
    have l13_d := F12_d.out.lt
    have G13_d := Lib.hid (F12_d.out.below HBb.out F12_d.out.lt)
    have l13_m := F12_m.out.lt
    have G13_m := Lib.hid (F12_m.out.below HBb.out F12_m.out.lt)
    have l13_q := F12_q.out.lt
    have G13_q := Lib.hid (F12_q.out.below HBb.out F12_q.out.lt)
    have l13_z := F12_z.out.lt
    have G13_z := Lib.hid (F12_z.out.below HBb.out F12_z.out.lt)
    have lw13 := B12_.out.size
    clear HSm HBb F12_p F12_r F12_s F12_d F12_m F12_q F12_z B12_
    have Y13_x := Lib.hid hX
    clear hX
    have Y13_y := Lib.hid hY
    clear hY
    refine Lex.lex_do rfl ?_
    have r0 := HT13_4.out.cell0
    have g0 := HT13_4.out.free 0
    have r1 := HT13_4.out.cell1
    have g1 := HT13_4.out.free 1
    have r2 := HT13_4.out.cell2
    have g2 := HT13_4.out.free 2
    have r3 := HT13_4.out.cell3
    have g3 := HT13_4.out.free 3
    obtain ⟨V13_s1, hV1⟩ : ∃ V13_s1, V13_s1 = ((((V13_.setCell ⟨B13_4, 0, none⟩ (.bool px5.1)).setCell ⟨B13_4, 1, none⟩ (.slice Ax5 nx5 cx5)).setCell ⟨B13_4, 2, none⟩ (.bool px6.1)).setCell ⟨B13_4, 3, none⟩ (.slice Ax6 nx6 cx6)) := ⟨_, rfl⟩
    have HV1 := Lib.hid hV1
    clear hV1
    go_wp2_with fail
    rw [← HV1.out]
    clear r0 g0 r1 g1 r2 g2 r3 g3
    have G13_ps := Lib.hid (show Two V13_s1 w.heap.size (.int .i64 p) (.int .i64 q) 28 by rw [HV1.out]; exact ((((G13_p.out.setOther ⟨B13_4, 0, none⟩ _ (by dsimp only; omega)).setOther ⟨B13_4, 1, none⟩ _ (by dsimp only; omega)).setOther ⟨B13_4, 2, none⟩ _ (by dsimp only; omega)).setOther ⟨B13_4, 3, none⟩ _ (by dsimp only; omega)))
    have G13_rs := Lib.hid (show Two V13_s1 (w.heap.size + 1) (.int .i64 r) (.int .i64 s) 28 by rw [HV1.out]; exact ((((G13_r.out.setOther ⟨B13_4, 0, none⟩ _ (by dsimp only; omega)).setOther ⟨B13_4, 1, none⟩ _ (by dsimp only; omega)).setOther ⟨B13_4, 2, none⟩ _ (by dsimp only; omega)).setOther ⟨B13_4, 3, none⟩ _ (by dsimp only; omega)))
    have G13_ss := Lib.hid (show Two V13_s1 N2 (.int .i64 sn) (.int .i64 sd) 28 by rw [HV1.out]; exact ((((G13_s.out.setOther ⟨B13_4, 0, none⟩ _ (by dsimp only; omega)).setOther ⟨B13_4, 1, none⟩ _ (by dsimp only; omega)).setOther ⟨B13_4, 2, none⟩ _ (by dsimp only; omega)).setOther ⟨B13_4, 3, none⟩ _ (by dsimp only; omega)))
    have G13_ds := Lib.hid (show Two V13_s1 N4 (.int .i64 dn) (.int .i64 dd) 28 by rw [HV1.out]; exact ((((G13_d.out.setOther ⟨B13_4, 0, none⟩ _ (by dsimp only; omega)).setOther ⟨B13_4, 1, none⟩ _ (by dsimp only; omega)).setOther ⟨B13_4, 2, none⟩ _ (by dsimp only; omega)).setOther ⟨B13_4, 3, none⟩ _ (by dsimp only; omega)))
    have G13_ms := Lib.hid (show Two V13_s1 N6 (.int .i64 mn) (.int .i64 md) 28 by rw [HV1.out]; exact ((((G13_m.out.setOther ⟨B13_4, 0, none⟩ _ (by dsimp only; omega)).setOther ⟨B13_4, 1, none⟩ _ (by dsimp only; omega)).setOther ⟨B13_4, 2, none⟩ _ (by dsimp only; omega)).setOther ⟨B13_4, 3, none⟩ _ (by dsimp only; omega)))
    have G13_qs := Lib.hid (show Two V13_s1 N8 (.int .i64 qn) (.int .i64 qd) 28 by rw [HV1.out]; exact ((((G13_q.out.setOther ⟨B13_4, 0, none⟩ _ (by dsimp only; omega)).setOther ⟨B13_4, 1, none⟩ _ (by dsimp only; omega)).setOther ⟨B13_4, 2, none⟩ _ (by dsimp only; omega)).setOther ⟨B13_4, 3, none⟩ _ (by dsimp only; omega)))
    have G13_zs := Lib.hid (show Two V13_s1 N10 (.int .i64 0) (.int .i64 0) 28 by rw [HV1.out]; exact ((((G13_z.out.setOther ⟨B13_4, 0, none⟩ _ (by dsimp only; omega)).setOther ⟨B13_4, 1, none⟩ _ (by dsimp only; omega)).setOther ⟨B13_4, 2, none⟩ _ (by dsimp only; omega)).setOther ⟨B13_4, 3, none⟩ _ (by dsimp only; omega)))
    replace HT13_5 := Lib.hid (show Four V13_s1 _ _ _ _ _ _ by rw [HV1.out]; exact ((((HT13_5.out.setOther ⟨B13_4, 0, none⟩ _ (by dsimp only; omega)).setOther ⟨B13_4, 1, none⟩ _ (by dsimp only; omega)).setOther ⟨B13_4, 2, none⟩ _ (by dsimp only; omega)).setOther ⟨B13_4, 3, none⟩ _ (by dsimp only; omega)))
    have G13_X := Lib.hid (show Four V13_s1 B13_4 (.bool px5.1) (.slice Ax5 nx5 cx5) (.bool px6.1) (.slice Ax6 nx6 cx6) 40 by rw [HV1.out]; exact HT13_4.out.set4 _ _ _ _)
    have Y13_xs := Lib.hid (show IsRQ V13_s1 (.agg #[.bool px5.1, .slice Ax5 nx5 cx5, .bool px6.1, .slice Ax6 nx6 cx6]) p q 5 by rw [HV1.out]; exact IsRQ.stored4 Y13_x.out HT13_4.out)
    clear Y13_x
    have Y13_ys := Lib.hid (show IsRQ V13_s1 (.agg #[.bool py5.1, .slice Ay5 ny5 cy5, .bool py6.1, .slice Ay6 ny6 cy6]) r s 5 by rw [HV1.out]; exact IsRQ.stored4 Y13_y.out HT13_4.out)
    clear Y13_y
    have HB13_1 := Lib.hid (show Below w.heap.size w V13_s1 by rw [HV1.out]; exact ((((HBm.out.setCell (by dsimp only; omega) _).setCell (by dsimp only; omega) _).setCell (by dsimp only; omega) _).setCell (by dsimp only; omega) _))
    clear HV1 HT13_4 HBm G13_p G13_r G13_s G13_d G13_m G13_q G13_z
    refine Lex.lexQ_normal (fun _ => ⟨G13_ps.out, G13_rs.out⟩) ?_
    refine Lex.lex_do rfl ?_
    have r0 := HT13_5.out.cell0
    have g0 := HT13_5.out.free 0
    have r1 := HT13_5.out.cell1
    have g1 := HT13_5.out.free 1
    have r2 := HT13_5.out.cell2
    have g2 := HT13_5.out.free 2
    have r3 := HT13_5.out.cell3
    have g3 := HT13_5.out.free 3
    obtain ⟨V13_s2, hV1⟩ : ∃ V13_s2, V13_s2 = ((((V13_s1.setCell ⟨B13_5, 0, none⟩ (.bool py5.1)).setCell ⟨B13_5, 1, none⟩ (.slice Ay5 ny5 cy5)).setCell ⟨B13_5, 2, none⟩ (.bool py6.1)).setCell ⟨B13_5, 3, none⟩ (.slice Ay6 ny6 cy6)) := ⟨_, rfl⟩
    have HV1 := Lib.hid hV1
    clear hV1
    go_wp2_with fail
    rw [← HV1.out]
    clear r0 g0 r1 g1 r2 g2 r3 g3
    have G13_pss := Lib.hid (show Two V13_s2 w.heap.size (.int .i64 p) (.int .i64 q) 28 by rw [HV1.out]; exact ((((G13_ps.out.setOther ⟨B13_5, 0, none⟩ _ (by dsimp only; omega)).setOther ⟨B13_5, 1, none⟩ _ (by dsimp only; omega)).setOther ⟨B13_5, 2, none⟩ _ (by dsimp only; omega)).setOther ⟨B13_5, 3, none⟩ _ (by dsimp only; omega)))
    have G13_rss := Lib.hid (show Two V13_s2 (w.heap.size + 1) (.int .i64 r) (.int .i64 s) 28 by rw [HV1.out]; exact ((((G13_rs.out.setOther ⟨B13_5, 0, none⟩ _ (by dsimp only; omega)).setOther ⟨B13_5, 1, none⟩ _ (by dsimp only; omega)).setOther ⟨B13_5, 2, none⟩ _ (by dsimp only; omega)).setOther ⟨B13_5, 3, none⟩ _ (by dsimp only; omega)))
    have G13_sss := Lib.hid (show Two V13_s2 N2 (.int .i64 sn) (.int .i64 sd) 28 by rw [HV1.out]; exact ((((G13_ss.out.setOther ⟨B13_5, 0, none⟩ _ (by dsimp only; omega)).setOther ⟨B13_5, 1, none⟩ _ (by dsimp only; omega)).setOther ⟨B13_5, 2, none⟩ _ (by dsimp only; omega)).setOther ⟨B13_5, 3, none⟩ _ (by dsimp only; omega)))
    have G13_dss := Lib.hid (show Two V13_s2 N4 (.int .i64 dn) (.int .i64 dd) 28 by rw [HV1.out]; exact ((((G13_ds.out.setOther ⟨B13_5, 0, none⟩ _ (by dsimp only; omega)).setOther ⟨B13_5, 1, none⟩ _ (by dsimp only; omega)).setOther ⟨B13_5, 2, none⟩ _ (by dsimp only; omega)).setOther ⟨B13_5, 3, none⟩ _ (by dsimp only; omega)))
    have G13_mss := Lib.hid (show Two V13_s2 N6 (.int .i64 mn) (.int .i64 md) 28 by rw [HV1.out]; exact ((((G13_ms.out.setOther ⟨B13_5, 0, none⟩ _ (by dsimp only; omega)).setOther ⟨B13_5, 1, none⟩ _ (by dsimp only; omega)).setOther ⟨B13_5, 2, none⟩ _ (by dsimp only; omega)).setOther ⟨B13_5, 3, none⟩ _ (by dsimp only; omega)))
    have G13_qss := Lib.hid (show Two V13_s2 N8 (.int .i64 qn) (.int .i64 qd) 28 by rw [HV1.out]; exact ((((G13_qs.out.setOther ⟨B13_5, 0, none⟩ _ (by dsimp only; omega)).setOther ⟨B13_5, 1, none⟩ _ (by dsimp only; omega)).setOther ⟨B13_5, 2, none⟩ _ (by dsimp only; omega)).setOther ⟨B13_5, 3, none⟩ _ (by dsimp only; omega)))
    have G13_zss := Lib.hid (show Two V13_s2 N10 (.int .i64 0) (.int .i64 0) 28 by rw [HV1.out]; exact ((((G13_zs.out.setOther ⟨B13_5, 0, none⟩ _ (by dsimp only; omega)).setOther ⟨B13_5, 1, none⟩ _ (by dsimp only; omega)).setOther ⟨B13_5, 2, none⟩ _ (by dsimp only; omega)).setOther ⟨B13_5, 3, none⟩ _ (by dsimp only; omega)))
    have G13_Xs := Lib.hid (show Four V13_s2 B13_4 (.bool px5.1) (.slice Ax5 nx5 cx5) (.bool px6.1) (.slice Ax6 nx6 cx6) 40 by rw [HV1.out]; exact ((((G13_X.out.setOther ⟨B13_5, 0, none⟩ _ (by dsimp only; omega)).setOther ⟨B13_5, 1, none⟩ _ (by dsimp only; omega)).setOther ⟨B13_5, 2, none⟩ _ (by dsimp only; omega)).setOther ⟨B13_5, 3, none⟩ _ (by dsimp only; omega)))
    have G13_Y := Lib.hid (show Four V13_s2 B13_5 (.bool py5.1) (.slice Ay5 ny5 cy5) (.bool py6.1) (.slice Ay6 ny6 cy6) 40 by rw [HV1.out]; exact HT13_5.out.set4 _ _ _ _)
    have Y13_xss := Lib.hid (show IsRQ V13_s2 (.agg #[.bool px5.1, .slice Ax5 nx5 cx5, .bool px6.1, .slice Ax6 nx6 cx6]) p q 5 by rw [HV1.out]; exact IsRQ.stored4 Y13_xs.out HT13_5.out)
    clear Y13_xs
    have Y13_yss := Lib.hid (show IsRQ V13_s2 (.agg #[.bool py5.1, .slice Ay5 ny5 cy5, .bool py6.1, .slice Ay6 ny6 cy6]) r s 5 by rw [HV1.out]; exact IsRQ.stored4 Y13_ys.out HT13_5.out)
    clear Y13_ys
    have HB13_2 := Lib.hid (show Below w.heap.size w V13_s2 by rw [HV1.out]; exact ((((HB13_1.out.setCell (by dsimp only; omega) _).setCell (by dsimp only; omega) _).setCell (by dsimp only; omega) _).setCell (by dsimp only; omega) _))
    clear HV1 HT13_5 HB13_1 G13_ps G13_rs G13_ss G13_ds G13_ms G13_qs G13_zs G13_X
    refine Lex.lexQ_normal (fun _ => ⟨G13_pss.out, G13_rss.out⟩) ?_
    refine Lex.lex_nil ?_
    clear hPx hQx hPy hQy co1 co2
    go_upto_region 10 with fail
    have k0_0 := G13_Xs.out.cell0
    have k0_1 := G13_Xs.out.cell1
    have k0_2 := G13_Xs.out.cell2
    have k0_3 := G13_Xs.out.cell3
    have k1_0 := G13_Y.out.cell0
    have k1_1 := G13_Y.out.cell1
    have k1_2 := G13_Y.out.cell2
    have k1_3 := G13_Y.out.cell3
    have hb140 := Below.refl V13_s2.heap.size V13_s2
    have hw140 := HB13_2.out
    have cc := cqa V13_s2 hw140 _ _ (Y13_xss.out.below hb140) (Y13_yss.out.below hb140)
    go_wp2_with fail
    refine cc.mono ?_
    rintro e V141 ⟨v141, rfl, hm141, hn141⟩
    have hb141 := hb140.trans (hn141.mono hb140.size)
    have hw141 := hw140.trans (hn141.mono hw140.size)
    clear cc hb140 hw140 hn141
    clear k0_0 k0_1 k0_2 k0_3 k1_0 k1_1 k1_2 k1_3
    have k0_0 := (G13_Xs.out.below hb141 G13_Xs.out.lt).cell0
    have k0_1 := (G13_Xs.out.below hb141 G13_Xs.out.lt).cell1
    have k0_2 := (G13_Xs.out.below hb141 G13_Xs.out.lt).cell2
    have k0_3 := (G13_Xs.out.below hb141 G13_Xs.out.lt).cell3
    have k1_0 := (G13_Y.out.below hb141 G13_Y.out.lt).cell0
    have k1_1 := (G13_Y.out.below hb141 G13_Y.out.lt).cell1
    have k1_2 := (G13_Y.out.below hb141 G13_Y.out.lt).cell2
    have k1_3 := (G13_Y.out.below hb141 G13_Y.out.lt).cell3
    have cc := cfa V141 hw141 _ hm141
    go_wp2_with fail
    refine cc.mono ?_
    rintro e V142 ⟨v142, rfl, hm142, hn142⟩
    have hb142 := hb141.trans (hn142.mono hb141.size)
    have hw142 := hw141.trans (hn142.mono hw141.size)
    clear hm141
    subst hm142
    clear cc hb141 hw141 hn142
    clear k0_0 k0_1 k0_2 k0_3 k1_0 k1_1 k1_2 k1_3
    have k0_0 := (G13_Xs.out.below hb142 G13_Xs.out.lt).cell0
    have k0_1 := (G13_Xs.out.below hb142 G13_Xs.out.lt).cell1
    have k0_2 := (G13_Xs.out.below hb142 G13_Xs.out.lt).cell2
    have k0_3 := (G13_Xs.out.below hb142 G13_Xs.out.lt).cell3
    have k1_0 := (G13_Y.out.below hb142 G13_Y.out.lt).cell0
    have k1_1 := (G13_Y.out.below hb142 G13_Y.out.lt).cell1
    have k1_2 := (G13_Y.out.below hb142 G13_Y.out.lt).cell2
    have k1_3 := (G13_Y.out.below hb142 G13_Y.out.lt).cell3
    clear cqa cfa
    obtain ⟨N15, hNB⟩ : ∃ N15, N15 = V142.heap.size := ⟨_, rfl⟩
    obtain ⟨U15, hU⟩ : ∃ U15, U15 = V142.alloc (.cells #[.int .i64 sn, .int .i64 sd] 28) := ⟨_, rfl⟩
    have HU := Lib.hid (show U15 = _ ∧ N15 = _ from ⟨hU, hNB⟩)
    clear hU hNB
    go_upto_region 11 with fail
    clear k0_0 k0_1 k0_2 k0_3 k1_0 k1_1 k1_2 k1_3
    rw [← HU.out.2, ← HU.out.1]
    have hbU := hb142.alloc hb142.size (.cells #[.int .i64 sn, .int .i64 sd] 28)
    have hwU := hw142.alloc hw142.size (.cells #[.int .i64 sn, .int .i64 sd] 28)
    rw [← HU.out.1] at hbU hwU
    have F15_p := Lib.hid (G13_pss.out.below hbU G13_pss.out.lt)
    have F15_r := Lib.hid (G13_rss.out.below hbU G13_rss.out.lt)
    have F15_s := Lib.hid (G13_sss.out.below hbU G13_sss.out.lt)
    have F15_d := Lib.hid (G13_dss.out.below hbU G13_dss.out.lt)
    have F15_m := Lib.hid (G13_mss.out.below hbU G13_mss.out.lt)
    have F15_q := Lib.hid (G13_qss.out.below hbU G13_qss.out.lt)
    have F15_z := Lib.hid (G13_zss.out.below hbU G13_zss.out.lt)
    have F15_X := Lib.hid (G13_Xs.out.below hbU G13_Xs.out.lt)
    have F15_Y := Lib.hid (G13_Y.out.below hbU G13_Y.out.lt)
    have F15_ra := Lib.hid (show Two U15 N15 (.int .i64 sn) (.int .i64 sd) 28 by rw [HU.out.1, HU.out.2]; exact Two.newAt _ _ _ _ _ rfl)
    have X15_x := Lib.hid (Y13_xss.out.below hbU)
    have X15_y := Lib.hid (Y13_yss.out.below hbU)
    have B15_ := Lib.hid hwU
    clear HU hbU hwU hb142 hw142 G13_pss G13_rss G13_sss G13_dss G13_mss G13_qss G13_zss G13_Xs G13_Y HB13_2 Y13_xss Y13_yss
    have k0_0 := F15_X.out.cell0
    have k0_1 := F15_X.out.cell1
    have k0_2 := F15_X.out.cell2
    have k0_3 := F15_X.out.cell3
    have k1_0 := F15_Y.out.cell0
    have k1_1 := F15_Y.out.cell1
    have k1_2 := F15_Y.out.cell2
    have k1_3 := F15_Y.out.cell3
    have hb160 := Below.refl U15.heap.size U15
    have hw160 := B15_.out
    have cc := cqs U15 hw160 _ _ (X15_x.out.below hb160) (X15_y.out.below hb160)
    go_wp2_with fail
    refine cc.mono ?_
    rintro e V161 ⟨v161, rfl, hm161, hn161⟩
    have hb161 := hb160.trans (hn161.mono hb160.size)
    have hw161 := hw160.trans (hn161.mono hw160.size)
    clear cc hb160 hw160 hn161
    clear k0_0 k0_1 k0_2 k0_3 k1_0 k1_1 k1_2 k1_3
    have k0_0 := (F15_X.out.below hb161 F15_X.out.lt).cell0
    have k0_1 := (F15_X.out.below hb161 F15_X.out.lt).cell1
    have k0_2 := (F15_X.out.below hb161 F15_X.out.lt).cell2
    have k0_3 := (F15_X.out.below hb161 F15_X.out.lt).cell3
    have k1_0 := (F15_Y.out.below hb161 F15_Y.out.lt).cell0
    have k1_1 := (F15_Y.out.below hb161 F15_Y.out.lt).cell1
    have k1_2 := (F15_Y.out.below hb161 F15_Y.out.lt).cell2
    have k1_3 := (F15_Y.out.below hb161 F15_Y.out.lt).cell3
    have cc := cfs V161 hw161 _ hm161
    go_wp2_with fail
    refine cc.mono ?_
    rintro e V162 ⟨v162, rfl, hm162, hn162⟩
    have hb162 := hb161.trans (hn162.mono hb161.size)
    have hw162 := hw161.trans (hn162.mono hw161.size)
    clear hm161
    subst hm162
    clear cc hb161 hw161 hn162
    clear k0_0 k0_1 k0_2 k0_3 k1_0 k1_1 k1_2 k1_3
    have k0_0 := (F15_X.out.below hb162 F15_X.out.lt).cell0
    have k0_1 := (F15_X.out.below hb162 F15_X.out.lt).cell1
    have k0_2 := (F15_X.out.below hb162 F15_X.out.lt).cell2
    have k0_3 := (F15_X.out.below hb162 F15_X.out.lt).cell3
    have k1_0 := (F15_Y.out.below hb162 F15_Y.out.lt).cell0
    have k1_1 := (F15_Y.out.below hb162 F15_Y.out.lt).cell1
    have k1_2 := (F15_Y.out.below hb162 F15_Y.out.lt).cell2
    have k1_3 := (F15_Y.out.below hb162 F15_Y.out.lt).cell3
    clear cqs cfs
    obtain ⟨N17, hNB⟩ : ∃ N17, N17 = V162.heap.size := ⟨_, rfl⟩
    obtain ⟨U17, hU⟩ : ∃ U17, U17 = V162.alloc (.cells #[.int .i64 dn, .int .i64 dd] 28) := ⟨_, rfl⟩
    have HU := Lib.hid (show U17 = _ ∧ N17 = _ from ⟨hU, hNB⟩)
    clear hU hNB
    go_upto_region 12 with fail
    clear k0_0 k0_1 k0_2 k0_3 k1_0 k1_1 k1_2 k1_3
    rw [← HU.out.2, ← HU.out.1]
    have hbU := hb162.alloc hb162.size (.cells #[.int .i64 dn, .int .i64 dd] 28)
    have hwU := hw162.alloc hw162.size (.cells #[.int .i64 dn, .int .i64 dd] 28)
    rw [← HU.out.1] at hbU hwU
    have F17_p := Lib.hid (F15_p.out.below hbU F15_p.out.lt)
    have F17_r := Lib.hid (F15_r.out.below hbU F15_r.out.lt)
    have F17_s := Lib.hid (F15_s.out.below hbU F15_s.out.lt)
    have F17_d := Lib.hid (F15_d.out.below hbU F15_d.out.lt)
    have F17_m := Lib.hid (F15_m.out.below hbU F15_m.out.lt)
    have F17_q := Lib.hid (F15_q.out.below hbU F15_q.out.lt)
    have F17_z := Lib.hid (F15_z.out.below hbU F15_z.out.lt)
    have F17_X := Lib.hid (F15_X.out.below hbU F15_X.out.lt)
    have F17_Y := Lib.hid (F15_Y.out.below hbU F15_Y.out.lt)
    have F17_ra := Lib.hid (F15_ra.out.below hbU F15_ra.out.lt)
    have F17_rs := Lib.hid (show Two U17 N17 (.int .i64 dn) (.int .i64 dd) 28 by rw [HU.out.1, HU.out.2]; exact Two.newAt _ _ _ _ _ rfl)
    have X17_x := Lib.hid (X15_x.out.below hbU)
    have X17_y := Lib.hid (X15_y.out.below hbU)
    have B17_ := Lib.hid hwU
    clear HU hbU hwU hb162 hw162 F15_p F15_r F15_s F15_d F15_m F15_q F15_z F15_X F15_Y F15_ra B15_ X15_x X15_y
    have k0_0 := F17_X.out.cell0
    have k0_1 := F17_X.out.cell1
    have k0_2 := F17_X.out.cell2
    have k0_3 := F17_X.out.cell3
    have k1_0 := F17_Y.out.cell0
    have k1_1 := F17_Y.out.cell1
    have k1_2 := F17_Y.out.cell2
    have k1_3 := F17_Y.out.cell3
    have hb180 := Below.refl U17.heap.size U17
    have hw180 := B17_.out
    have cc := cqm U17 hw180 _ _ (X17_x.out.below hb180) (X17_y.out.below hb180)
    go_wp2_with fail
    refine cc.mono ?_
    rintro e V181 ⟨v181, rfl, hm181, hn181⟩
    have hb181 := hb180.trans (hn181.mono hb180.size)
    have hw181 := hw180.trans (hn181.mono hw180.size)
    clear cc hb180 hw180 hn181
    clear k0_0 k0_1 k0_2 k0_3 k1_0 k1_1 k1_2 k1_3
    have k0_0 := (F17_X.out.below hb181 F17_X.out.lt).cell0
    have k0_1 := (F17_X.out.below hb181 F17_X.out.lt).cell1
    have k0_2 := (F17_X.out.below hb181 F17_X.out.lt).cell2
    have k0_3 := (F17_X.out.below hb181 F17_X.out.lt).cell3
    have k1_0 := (F17_Y.out.below hb181 F17_Y.out.lt).cell0
    have k1_1 := (F17_Y.out.below hb181 F17_Y.out.lt).cell1
    have k1_2 := (F17_Y.out.below hb181 F17_Y.out.lt).cell2
    have k1_3 := (F17_Y.out.below hb181 F17_Y.out.lt).cell3
    have cc := cfm V181 hw181 _ hm181
    go_wp2_with fail
    refine cc.mono ?_
    rintro e V182 ⟨v182, rfl, hm182, hn182⟩
    have hb182 := hb181.trans (hn182.mono hb181.size)
    have hw182 := hw181.trans (hn182.mono hw181.size)
    clear hm181
    subst hm182
    clear cc hb181 hw181 hn182
    clear k0_0 k0_1 k0_2 k0_3 k1_0 k1_1 k1_2 k1_3
    have k0_0 := (F17_X.out.below hb182 F17_X.out.lt).cell0
    have k0_1 := (F17_X.out.below hb182 F17_X.out.lt).cell1
    have k0_2 := (F17_X.out.below hb182 F17_X.out.lt).cell2
    have k0_3 := (F17_X.out.below hb182 F17_X.out.lt).cell3
    have k1_0 := (F17_Y.out.below hb182 F17_Y.out.lt).cell0
    have k1_1 := (F17_Y.out.below hb182 F17_Y.out.lt).cell1
    have k1_2 := (F17_Y.out.below hb182 F17_Y.out.lt).cell2
    have k1_3 := (F17_Y.out.below hb182 F17_Y.out.lt).cell3
    clear cqm cfm
    obtain ⟨N19, hNB⟩ : ∃ N19, N19 = V182.heap.size := ⟨_, rfl⟩
    obtain ⟨U19, hU⟩ : ∃ U19, U19 = V182.alloc (.cells #[.int .i64 mn, .int .i64 md] 28) := ⟨_, rfl⟩
    have HU := Lib.hid (show U19 = _ ∧ N19 = _ from ⟨hU, hNB⟩)
    clear hU hNB
    go_upto_region 13 with fail
    clear k0_0 k0_1 k0_2 k0_3 k1_0 k1_1 k1_2 k1_3
    rw [← HU.out.2, ← HU.out.1]
    have hbU := hb182.alloc hb182.size (.cells #[.int .i64 mn, .int .i64 md] 28)
    have hwU := hw182.alloc hw182.size (.cells #[.int .i64 mn, .int .i64 md] 28)
    rw [← HU.out.1] at hbU hwU
    have F19_p := Lib.hid (F17_p.out.below hbU F17_p.out.lt)
    have F19_r := Lib.hid (F17_r.out.below hbU F17_r.out.lt)
    have F19_s := Lib.hid (F17_s.out.below hbU F17_s.out.lt)
    have F19_d := Lib.hid (F17_d.out.below hbU F17_d.out.lt)
    have F19_m := Lib.hid (F17_m.out.below hbU F17_m.out.lt)
    have F19_q := Lib.hid (F17_q.out.below hbU F17_q.out.lt)
    have F19_z := Lib.hid (F17_z.out.below hbU F17_z.out.lt)
    have F19_X := Lib.hid (F17_X.out.below hbU F17_X.out.lt)
    have F19_Y := Lib.hid (F17_Y.out.below hbU F17_Y.out.lt)
    have F19_ra := Lib.hid (F17_ra.out.below hbU F17_ra.out.lt)
    have F19_rs := Lib.hid (F17_rs.out.below hbU F17_rs.out.lt)
    have F19_rm := Lib.hid (show Two U19 N19 (.int .i64 mn) (.int .i64 md) 28 by rw [HU.out.1, HU.out.2]; exact Two.newAt _ _ _ _ _ rfl)
    have X19_x := Lib.hid (X17_x.out.below hbU)
    have X19_y := Lib.hid (X17_y.out.below hbU)
    have B19_ := Lib.hid hwU
    clear HU hbU hwU hb182 hw182 F17_p F17_r F17_s F17_d F17_m F17_q F17_z F17_X F17_Y F17_ra F17_rs B17_ X17_x X17_y
    have q0_0 := F19_z.out.cell0
    have q0_1 := F19_z.out.cell1
    have hb0_ := Below.refl U19.heap.size U19
    have hw0_ := B19_.out
    obtain ⟨N20, hNB⟩ : ∃ N20, N20 = U19.heap.size := ⟨_, rfl⟩
    obtain ⟨U20, hU⟩ : ∃ U20, U20 = U19.alloc (.cells #[.int .i64 0, .int .i64 0] 28) := ⟨_, rfl⟩
    have HU := Lib.hid (show U20 = _ ∧ N20 = _ from ⟨hU, hNB⟩)
    clear hU hNB
    go_upto_region 14 with fail
    clear q0_0 q0_1
    rw [← HU.out.2, ← HU.out.1]
    have hbU := hb0_.alloc hb0_.size (.cells #[.int .i64 0, .int .i64 0] 28)
    have hwU := hw0_.alloc hw0_.size (.cells #[.int .i64 0, .int .i64 0] 28)
    rw [← HU.out.1] at hbU hwU
    have F20_p := Lib.hid (F19_p.out.below hbU F19_p.out.lt)
    have F20_r := Lib.hid (F19_r.out.below hbU F19_r.out.lt)
    have F20_s := Lib.hid (F19_s.out.below hbU F19_s.out.lt)
    have F20_d := Lib.hid (F19_d.out.below hbU F19_d.out.lt)
    have F20_m := Lib.hid (F19_m.out.below hbU F19_m.out.lt)
    have F20_q := Lib.hid (F19_q.out.below hbU F19_q.out.lt)
    have F20_z := Lib.hid (F19_z.out.below hbU F19_z.out.lt)
    have F20_X := Lib.hid (F19_X.out.below hbU F19_X.out.lt)
    have F20_Y := Lib.hid (F19_Y.out.below hbU F19_Y.out.lt)
    have F20_ra := Lib.hid (F19_ra.out.below hbU F19_ra.out.lt)
    have F20_rs := Lib.hid (F19_rs.out.below hbU F19_rs.out.lt)
    have F20_rm := Lib.hid (F19_rm.out.below hbU F19_rm.out.lt)
    have O20_p := Lib.hid (show w.heap.size < N20 by rw [HU.out.2]; exact (F19_p.out.below hb0_ F19_p.out.lt).lt)
    have O20_r := Lib.hid (show (w.heap.size + 1) < N20 by rw [HU.out.2]; exact (F19_r.out.below hb0_ F19_r.out.lt).lt)
    have O20_s := Lib.hid (show N2 < N20 by rw [HU.out.2]; exact (F19_s.out.below hb0_ F19_s.out.lt).lt)
    have O20_d := Lib.hid (show N4 < N20 by rw [HU.out.2]; exact (F19_d.out.below hb0_ F19_d.out.lt).lt)
    have O20_m := Lib.hid (show N6 < N20 by rw [HU.out.2]; exact (F19_m.out.below hb0_ F19_m.out.lt).lt)
    have O20_q := Lib.hid (show N8 < N20 by rw [HU.out.2]; exact (F19_q.out.below hb0_ F19_q.out.lt).lt)
    have O20_z := Lib.hid (show N10 < N20 by rw [HU.out.2]; exact (F19_z.out.below hb0_ F19_z.out.lt).lt)
    have O20_X := Lib.hid (show B13_4 < N20 by rw [HU.out.2]; exact (F19_X.out.below hb0_ F19_X.out.lt).lt)
    have O20_Y := Lib.hid (show B13_5 < N20 by rw [HU.out.2]; exact (F19_Y.out.below hb0_ F19_Y.out.lt).lt)
    have O20_ra := Lib.hid (show N15 < N20 by rw [HU.out.2]; exact (F19_ra.out.below hb0_ F19_ra.out.lt).lt)
    have O20_rs := Lib.hid (show N17 < N20 by rw [HU.out.2]; exact (F19_rs.out.below hb0_ F19_rs.out.lt).lt)
    have O20_rm := Lib.hid (show N19 < N20 by rw [HU.out.2]; exact (F19_rm.out.below hb0_ F19_rm.out.lt).lt)
    have OW20 := Lib.hid (show w.heap.size ≤ N20 by rw [HU.out.2]; exact hw0_.size)
    have F20_rd := Lib.hid (show Two U20 N20 (.int .i64 0) (.int .i64 0) 28 by rw [HU.out.1, HU.out.2]; exact Two.newAt _ _ _ _ _ rfl)
    have X20_x := Lib.hid (X19_x.out.below hbU)
    have X20_y := Lib.hid (X19_y.out.below hbU)
    have OX20_x := Lib.hid (X19_x.out.below hb0_)
    have OX20_y := Lib.hid (X19_y.out.below hb0_)
    have OV20 := Lib.hid (show Below U19.heap.size U19 U20 by rw [HU.out.1]; exact (Below.refl _ _).alloc (Nat.le_refl _) _)
    have OE20 := Lib.hid (show U19.heap.size ≤ N20 by rw [HU.out.2]; exact Nat.le_refl _)
    have B20_ := Lib.hid hwU
    clear HU hbU hwU hb0_ hw0_ F19_p F19_r F19_s F19_d F19_m F19_q F19_z F19_X F19_Y F19_ra F19_rs F19_rm B19_ X19_x X19_y
    have q0_0 := F20_r.out.cell0
    have q0_1 := F20_r.out.cell1
    go_upto_region 15 with fail
    clear q0_0 q0_1
    have k0_0 := F20_X.out.cell0
    have k0_1 := F20_X.out.cell1
    have k0_2 := F20_X.out.cell2
    have k0_3 := F20_X.out.cell3
    have k1_0 := F20_Y.out.cell0
    have k1_1 := F20_Y.out.cell1
    have k1_2 := F20_Y.out.cell2
    have k1_3 := F20_Y.out.cell3
    have hb210 := Below.refl U20.heap.size U20
    have hw210 := B20_.out
    have cc := cqd U20 hw210 _ _ (X20_x.out.below hb210) (X20_y.out.below hb210)
    go_wp2_with fail
    refine cc.mono ?_
    rintro e V211 ⟨v211, rfl, hm211, hn211⟩
    have hb211 := hb210.trans (hn211.mono hb210.size)
    have hw211 := hw210.trans (hn211.mono hw210.size)
    clear cc hb210 hw210 hn211
    clear k0_0 k0_1 k0_2 k0_3 k1_0 k1_1 k1_2 k1_3
    have k0_0 := (F20_X.out.below hb211 F20_X.out.lt).cell0
    have k0_1 := (F20_X.out.below hb211 F20_X.out.lt).cell1
    have k0_2 := (F20_X.out.below hb211 F20_X.out.lt).cell2
    have k0_3 := (F20_X.out.below hb211 F20_X.out.lt).cell3
    have k1_0 := (F20_Y.out.below hb211 F20_Y.out.lt).cell0
    have k1_1 := (F20_Y.out.below hb211 F20_Y.out.lt).cell1
    have k1_2 := (F20_Y.out.below hb211 F20_Y.out.lt).cell2
    have k1_3 := (F20_Y.out.below hb211 F20_Y.out.lt).cell3
    have cc := cfd V211 hw211 _ hm211
    go_wp2_with fail
    refine cc.mono ?_
    rintro e V212 ⟨v212, rfl, hm212, hn212⟩
    have hb212 := hb211.trans (hn212.mono hb211.size)
    have hw212 := hw211.trans (hn212.mono hw211.size)
    clear hm211
    subst hm212
    clear cc hb211 hw211 hn212
    clear k0_0 k0_1 k0_2 k0_3 k1_0 k1_1 k1_2 k1_3
    have k0_0 := (F20_X.out.below hb212 F20_X.out.lt).cell0
    have k0_1 := (F20_X.out.below hb212 F20_X.out.lt).cell1
    have k0_2 := (F20_X.out.below hb212 F20_X.out.lt).cell2
    have k0_3 := (F20_X.out.below hb212 F20_X.out.lt).cell3
    have k1_0 := (F20_Y.out.below hb212 F20_Y.out.lt).cell0
    have k1_1 := (F20_Y.out.below hb212 F20_Y.out.lt).cell1
    have k1_2 := (F20_Y.out.below hb212 F20_Y.out.lt).cell2
    have k1_3 := (F20_Y.out.below hb212 F20_Y.out.lt).cell3
    clear k0_0 k0_1 k0_2 k0_3 k1_0 k1_1 k1_2 k1_3
    have F22_p := Lib.hid (F20_p.out.below hb212 F20_p.out.lt)
    have F22_r := Lib.hid (F20_r.out.below hb212 F20_r.out.lt)
    have F22_s := Lib.hid (F20_s.out.below hb212 F20_s.out.lt)
    have F22_d := Lib.hid (F20_d.out.below hb212 F20_d.out.lt)
    have F22_m := Lib.hid (F20_m.out.below hb212 F20_m.out.lt)
    have F22_q := Lib.hid (F20_q.out.below hb212 F20_q.out.lt)
    have F22_z := Lib.hid (F20_z.out.below hb212 F20_z.out.lt)
    have F22_X := Lib.hid (F20_X.out.below hb212 F20_X.out.lt)
    have F22_Y := Lib.hid (F20_Y.out.below hb212 F20_Y.out.lt)
    have F22_ra := Lib.hid (F20_ra.out.below hb212 F20_ra.out.lt)
    have F22_rs := Lib.hid (F20_rs.out.below hb212 F20_rs.out.lt)
    have F22_rm := Lib.hid (F20_rm.out.below hb212 F20_rm.out.lt)
    have F22_rd := Lib.hid (F20_rd.out.below hb212 F20_rd.out.lt)
    have X22_x := Lib.hid (X20_x.out.below hb212)
    have X22_y := Lib.hid (X20_y.out.below hb212)
    have R22_ov := Lib.hid (OV20.out.trans (hb212.mono OV20.out.size))
    have B22_ := Lib.hid hw212
    clear hb212 hw212 F20_p F20_r F20_s F20_d F20_m F20_q F20_z F20_X F20_Y F20_ra F20_rs F20_rm F20_rd B20_ X20_x X20_y OV20
    clear cqd cfd
    have r0 := F22_rd.out.cell0
    have r1 := F22_rd.out.cell1
    have g0 := F22_rd.out.free 0
    have g1 := F22_rd.out.free 1
    obtain ⟨V_s, hV1⟩ : ∃ V_s, V_s = (V212.setCell ⟨N20, 0, none⟩ (.int .i64 qn)).setCell ⟨N20, 1, none⟩ (.int .i64 qd) := ⟨_, rfl⟩
    have HV1 := Lib.hid hV1
    clear hV1
    go_upto_region 16 with fail
    rw [← HV1.out]
    clear r0 r1 g0 g1
    have S_p := Lib.hid (show Two V_s w.heap.size (.int .i64 p) (.int .i64 q) 28 by rw [HV1.out]; exact (F22_p.out.setOther ⟨N20, 0, none⟩ _ (by dsimp only; have := O20_p.out; omega)).setOther ⟨N20, 1, none⟩ _ (by dsimp only; have := O20_p.out; omega))
    have S_r := Lib.hid (show Two V_s (w.heap.size + 1) (.int .i64 r) (.int .i64 s) 28 by rw [HV1.out]; exact (F22_r.out.setOther ⟨N20, 0, none⟩ _ (by dsimp only; have := O20_r.out; omega)).setOther ⟨N20, 1, none⟩ _ (by dsimp only; have := O20_r.out; omega))
    have S_s := Lib.hid (show Two V_s N2 (.int .i64 sn) (.int .i64 sd) 28 by rw [HV1.out]; exact (F22_s.out.setOther ⟨N20, 0, none⟩ _ (by dsimp only; have := O20_s.out; omega)).setOther ⟨N20, 1, none⟩ _ (by dsimp only; have := O20_s.out; omega))
    have S_d := Lib.hid (show Two V_s N4 (.int .i64 dn) (.int .i64 dd) 28 by rw [HV1.out]; exact (F22_d.out.setOther ⟨N20, 0, none⟩ _ (by dsimp only; have := O20_d.out; omega)).setOther ⟨N20, 1, none⟩ _ (by dsimp only; have := O20_d.out; omega))
    have S_m := Lib.hid (show Two V_s N6 (.int .i64 mn) (.int .i64 md) 28 by rw [HV1.out]; exact (F22_m.out.setOther ⟨N20, 0, none⟩ _ (by dsimp only; have := O20_m.out; omega)).setOther ⟨N20, 1, none⟩ _ (by dsimp only; have := O20_m.out; omega))
    have S_q := Lib.hid (show Two V_s N8 (.int .i64 qn) (.int .i64 qd) 28 by rw [HV1.out]; exact (F22_q.out.setOther ⟨N20, 0, none⟩ _ (by dsimp only; have := O20_q.out; omega)).setOther ⟨N20, 1, none⟩ _ (by dsimp only; have := O20_q.out; omega))
    have S_z := Lib.hid (show Two V_s N10 (.int .i64 0) (.int .i64 0) 28 by rw [HV1.out]; exact (F22_z.out.setOther ⟨N20, 0, none⟩ _ (by dsimp only; have := O20_z.out; omega)).setOther ⟨N20, 1, none⟩ _ (by dsimp only; have := O20_z.out; omega))
    have S_X := Lib.hid (show Four V_s B13_4 (.bool px5.1) (.slice Ax5 nx5 cx5) (.bool px6.1) (.slice Ax6 nx6 cx6) 40 by rw [HV1.out]; exact (F22_X.out.setOther ⟨N20, 0, none⟩ _ (by dsimp only; have := O20_X.out; omega)).setOther ⟨N20, 1, none⟩ _ (by dsimp only; have := O20_X.out; omega))
    have S_Y := Lib.hid (show Four V_s B13_5 (.bool py5.1) (.slice Ay5 ny5 cy5) (.bool py6.1) (.slice Ay6 ny6 cy6) 40 by rw [HV1.out]; exact (F22_Y.out.setOther ⟨N20, 0, none⟩ _ (by dsimp only; have := O20_Y.out; omega)).setOther ⟨N20, 1, none⟩ _ (by dsimp only; have := O20_Y.out; omega))
    have S_ra := Lib.hid (show Two V_s N15 (.int .i64 sn) (.int .i64 sd) 28 by rw [HV1.out]; exact (F22_ra.out.setOther ⟨N20, 0, none⟩ _ (by dsimp only; have := O20_ra.out; omega)).setOther ⟨N20, 1, none⟩ _ (by dsimp only; have := O20_ra.out; omega))
    have S_rs := Lib.hid (show Two V_s N17 (.int .i64 dn) (.int .i64 dd) 28 by rw [HV1.out]; exact (F22_rs.out.setOther ⟨N20, 0, none⟩ _ (by dsimp only; have := O20_rs.out; omega)).setOther ⟨N20, 1, none⟩ _ (by dsimp only; have := O20_rs.out; omega))
    have S_rm := Lib.hid (show Two V_s N19 (.int .i64 mn) (.int .i64 md) 28 by rw [HV1.out]; exact (F22_rm.out.setOther ⟨N20, 0, none⟩ _ (by dsimp only; have := O20_rm.out; omega)).setOther ⟨N20, 1, none⟩ _ (by dsimp only; have := O20_rm.out; omega))
    have S_rd := Lib.hid (show Two V_s N20 (.int .i64 qn) (.int .i64 qd) 28 by rw [HV1.out]; exact (F22_rd.out.set0 _).set1 _)
    have SX_x := Lib.hid (show IsRQ V_s (.agg #[.bool px5.1, .slice Ax5 nx5 cx5, .bool px6.1, .slice Ax6 nx6 cx6]) p q 5 from OX20_x.out.below (show Below U19.heap.size U19 V_s by rw [HV1.out]; exact (R22_ov.out.setCell (by dsimp only; exact OE20.out) _).setCell (by dsimp only; exact OE20.out) _))
    have SX_y := Lib.hid (show IsRQ V_s (.agg #[.bool py5.1, .slice Ay5 ny5 cy5, .bool py6.1, .slice Ay6 ny6 cy6]) r s 5 from OX20_y.out.below (show Below U19.heap.size U19 V_s by rw [HV1.out]; exact (R22_ov.out.setCell (by dsimp only; exact OE20.out) _).setCell (by dsimp only; exact OE20.out) _))
    have SB_ := Lib.hid (show Below w.heap.size w V_s by rw [HV1.out]; exact (B22_.out.setCell (by dsimp only; exact OW20.out) _).setCell (by dsimp only; exact OW20.out) _)
    clear HV1 F22_p F22_r F22_s F22_d F22_m F22_q F22_z F22_X F22_Y F22_ra F22_rs F22_rm F22_rd B22_ X22_x X22_y
    have k0_0 := S_s.out.cell0
    have k0_1 := S_s.out.cell1
    have k1_0 := S_d.out.cell0
    have k1_1 := S_d.out.cell1
    have k2_0 := S_m.out.cell0
    have k2_1 := S_m.out.cell1
    have k3_0 := S_q.out.cell0
    have k3_1 := S_q.out.cell1
    have k4_0 := S_ra.out.cell0
    have k4_1 := S_ra.out.cell1
    have k5_0 := S_rs.out.cell0
    have k5_1 := S_rs.out.cell1
    have k6_0 := S_rm.out.cell0
    have k6_1 := S_rm.out.cell1
    have k7_0 := S_rd.out.cell0
    have k7_1 := S_rd.out.cell1
    have k8_0 := S_X.out.cell0
    have k8_1 := S_X.out.cell1
    have k8_2 := S_X.out.cell2
    have k8_3 := S_X.out.cell3
    have k9_0 := S_Y.out.cell0
    have k9_1 := S_Y.out.cell1
    have k9_2 := S_Y.out.cell2
    have k9_3 := S_Y.out.cell3
    have hb230 := Below.refl V_s.heap.size V_s
    have hw230 := SB_.out
    have cc := ci1 V_s hw230
    go_wp2_with fail
    refine cc.mono ?_
    rintro e V231 ⟨v231, rfl, hm231, hn231⟩
    have hb231 := hb230.trans (hn231.mono hb230.size)
    have hw231 := hw230.trans (hn231.mono hw230.size)
    subst hm231
    clear cc hb230 hw230 hn231
    clear k0_0 k0_1 k1_0 k1_1 k2_0 k2_1 k3_0 k3_1 k4_0 k4_1 k5_0 k5_1 k6_0 k6_1 k7_0 k7_1 k8_0 k8_1 k8_2 k8_3 k9_0 k9_1 k9_2 k9_3
    have k0_0 := (S_s.out.below hb231 S_s.out.lt).cell0
    have k0_1 := (S_s.out.below hb231 S_s.out.lt).cell1
    have k1_0 := (S_d.out.below hb231 S_d.out.lt).cell0
    have k1_1 := (S_d.out.below hb231 S_d.out.lt).cell1
    have k2_0 := (S_m.out.below hb231 S_m.out.lt).cell0
    have k2_1 := (S_m.out.below hb231 S_m.out.lt).cell1
    have k3_0 := (S_q.out.below hb231 S_q.out.lt).cell0
    have k3_1 := (S_q.out.below hb231 S_q.out.lt).cell1
    have k4_0 := (S_ra.out.below hb231 S_ra.out.lt).cell0
    have k4_1 := (S_ra.out.below hb231 S_ra.out.lt).cell1
    have k5_0 := (S_rs.out.below hb231 S_rs.out.lt).cell0
    have k5_1 := (S_rs.out.below hb231 S_rs.out.lt).cell1
    have k6_0 := (S_rm.out.below hb231 S_rm.out.lt).cell0
    have k6_1 := (S_rm.out.below hb231 S_rm.out.lt).cell1
    have k7_0 := (S_rd.out.below hb231 S_rd.out.lt).cell0
    have k7_1 := (S_rd.out.below hb231 S_rd.out.lt).cell1
    have k8_0 := (S_X.out.below hb231 S_X.out.lt).cell0
    have k8_1 := (S_X.out.below hb231 S_X.out.lt).cell1
    have k8_2 := (S_X.out.below hb231 S_X.out.lt).cell2
    have k8_3 := (S_X.out.below hb231 S_X.out.lt).cell3
    have k9_0 := (S_Y.out.below hb231 S_Y.out.lt).cell0
    have k9_1 := (S_Y.out.below hb231 S_Y.out.lt).cell1
    have k9_2 := (S_Y.out.below hb231 S_Y.out.lt).cell2
    have k9_3 := (S_Y.out.below hb231 S_Y.out.lt).cell3
    have cc := ci2 V231 hw231
    go_wp2_with fail
    refine cc.mono ?_
    rintro e V232 ⟨v232, rfl, hm232, hn232⟩
    have hb232 := hb231.trans (hn232.mono hb231.size)
    have hw232 := hw231.trans (hn232.mono hw231.size)
    subst hm232
    clear cc hb231 hw231 hn232
    clear k0_0 k0_1 k1_0 k1_1 k2_0 k2_1 k3_0 k3_1 k4_0 k4_1 k5_0 k5_1 k6_0 k6_1 k7_0 k7_1 k8_0 k8_1 k8_2 k8_3 k9_0 k9_1 k9_2 k9_3
    have k0_0 := (S_s.out.below hb232 S_s.out.lt).cell0
    have k0_1 := (S_s.out.below hb232 S_s.out.lt).cell1
    have k1_0 := (S_d.out.below hb232 S_d.out.lt).cell0
    have k1_1 := (S_d.out.below hb232 S_d.out.lt).cell1
    have k2_0 := (S_m.out.below hb232 S_m.out.lt).cell0
    have k2_1 := (S_m.out.below hb232 S_m.out.lt).cell1
    have k3_0 := (S_q.out.below hb232 S_q.out.lt).cell0
    have k3_1 := (S_q.out.below hb232 S_q.out.lt).cell1
    have k4_0 := (S_ra.out.below hb232 S_ra.out.lt).cell0
    have k4_1 := (S_ra.out.below hb232 S_ra.out.lt).cell1
    have k5_0 := (S_rs.out.below hb232 S_rs.out.lt).cell0
    have k5_1 := (S_rs.out.below hb232 S_rs.out.lt).cell1
    have k6_0 := (S_rm.out.below hb232 S_rm.out.lt).cell0
    have k6_1 := (S_rm.out.below hb232 S_rm.out.lt).cell1
    have k7_0 := (S_rd.out.below hb232 S_rd.out.lt).cell0
    have k7_1 := (S_rd.out.below hb232 S_rd.out.lt).cell1
    have k8_0 := (S_X.out.below hb232 S_X.out.lt).cell0
    have k8_1 := (S_X.out.below hb232 S_X.out.lt).cell1
    have k8_2 := (S_X.out.below hb232 S_X.out.lt).cell2
    have k8_3 := (S_X.out.below hb232 S_X.out.lt).cell3
    have k9_0 := (S_Y.out.below hb232 S_Y.out.lt).cell0
    have k9_1 := (S_Y.out.below hb232 S_Y.out.lt).cell1
    have k9_2 := (S_Y.out.below hb232 S_Y.out.lt).cell2
    have k9_3 := (S_Y.out.below hb232 S_Y.out.lt).cell3
    have cc := ci3 V232 hw232
    go_wp2_with fail
    refine cc.mono ?_
    rintro e V233 ⟨v233, rfl, hm233, hn233⟩
    have hb233 := hb232.trans (hn233.mono hb232.size)
    have hw233 := hw232.trans (hn233.mono hw232.size)
    subst hm233
    clear cc hb232 hw232 hn233
    clear k0_0 k0_1 k1_0 k1_1 k2_0 k2_1 k3_0 k3_1 k4_0 k4_1 k5_0 k5_1 k6_0 k6_1 k7_0 k7_1 k8_0 k8_1 k8_2 k8_3 k9_0 k9_1 k9_2 k9_3
    have k0_0 := (S_s.out.below hb233 S_s.out.lt).cell0
    have k0_1 := (S_s.out.below hb233 S_s.out.lt).cell1
    have k1_0 := (S_d.out.below hb233 S_d.out.lt).cell0
    have k1_1 := (S_d.out.below hb233 S_d.out.lt).cell1
    have k2_0 := (S_m.out.below hb233 S_m.out.lt).cell0
    have k2_1 := (S_m.out.below hb233 S_m.out.lt).cell1
    have k3_0 := (S_q.out.below hb233 S_q.out.lt).cell0
    have k3_1 := (S_q.out.below hb233 S_q.out.lt).cell1
    have k4_0 := (S_ra.out.below hb233 S_ra.out.lt).cell0
    have k4_1 := (S_ra.out.below hb233 S_ra.out.lt).cell1
    have k5_0 := (S_rs.out.below hb233 S_rs.out.lt).cell0
    have k5_1 := (S_rs.out.below hb233 S_rs.out.lt).cell1
    have k6_0 := (S_rm.out.below hb233 S_rm.out.lt).cell0
    have k6_1 := (S_rm.out.below hb233 S_rm.out.lt).cell1
    have k7_0 := (S_rd.out.below hb233 S_rd.out.lt).cell0
    have k7_1 := (S_rd.out.below hb233 S_rd.out.lt).cell1
    have k8_0 := (S_X.out.below hb233 S_X.out.lt).cell0
    have k8_1 := (S_X.out.below hb233 S_X.out.lt).cell1
    have k8_2 := (S_X.out.below hb233 S_X.out.lt).cell2
    have k8_3 := (S_X.out.below hb233 S_X.out.lt).cell3
    have k9_0 := (S_Y.out.below hb233 S_Y.out.lt).cell0
    have k9_1 := (S_Y.out.below hb233 S_Y.out.lt).cell1
    have k9_2 := (S_Y.out.below hb233 S_Y.out.lt).cell2
    have k9_3 := (S_Y.out.below hb233 S_Y.out.lt).cell3
    have cc := ci4 V233 hw233
    go_wp2_with fail
    refine cc.mono ?_
    rintro e V234 ⟨v234, rfl, hm234, hn234⟩
    have hb234 := hb233.trans (hn234.mono hb233.size)
    have hw234 := hw233.trans (hn234.mono hw233.size)
    subst hm234
    clear cc hb233 hw233 hn234
    clear k0_0 k0_1 k1_0 k1_1 k2_0 k2_1 k3_0 k3_1 k4_0 k4_1 k5_0 k5_1 k6_0 k6_1 k7_0 k7_1 k8_0 k8_1 k8_2 k8_3 k9_0 k9_1 k9_2 k9_3
    have k0_0 := (S_s.out.below hb234 S_s.out.lt).cell0
    have k0_1 := (S_s.out.below hb234 S_s.out.lt).cell1
    have k1_0 := (S_d.out.below hb234 S_d.out.lt).cell0
    have k1_1 := (S_d.out.below hb234 S_d.out.lt).cell1
    have k2_0 := (S_m.out.below hb234 S_m.out.lt).cell0
    have k2_1 := (S_m.out.below hb234 S_m.out.lt).cell1
    have k3_0 := (S_q.out.below hb234 S_q.out.lt).cell0
    have k3_1 := (S_q.out.below hb234 S_q.out.lt).cell1
    have k4_0 := (S_ra.out.below hb234 S_ra.out.lt).cell0
    have k4_1 := (S_ra.out.below hb234 S_ra.out.lt).cell1
    have k5_0 := (S_rs.out.below hb234 S_rs.out.lt).cell0
    have k5_1 := (S_rs.out.below hb234 S_rs.out.lt).cell1
    have k6_0 := (S_rm.out.below hb234 S_rm.out.lt).cell0
    have k6_1 := (S_rm.out.below hb234 S_rm.out.lt).cell1
    have k7_0 := (S_rd.out.below hb234 S_rd.out.lt).cell0
    have k7_1 := (S_rd.out.below hb234 S_rd.out.lt).cell1
    have k8_0 := (S_X.out.below hb234 S_X.out.lt).cell0
    have k8_1 := (S_X.out.below hb234 S_X.out.lt).cell1
    have k8_2 := (S_X.out.below hb234 S_X.out.lt).cell2
    have k8_3 := (S_X.out.below hb234 S_X.out.lt).cell3
    have k9_0 := (S_Y.out.below hb234 S_Y.out.lt).cell0
    have k9_1 := (S_Y.out.below hb234 S_Y.out.lt).cell1
    have k9_2 := (S_Y.out.below hb234 S_Y.out.lt).cell2
    have k9_3 := (S_Y.out.below hb234 S_Y.out.lt).cell3
    have cc := ccm V234 hw234 _ _ (SX_x.out.below hb234) (SX_y.out.below hb234)
    go_wp2_with fail
    refine cc.mono ?_
    rintro e V235 ⟨v235, rfl, hm235, hn235⟩
    have hb235 := hb234.trans (hn235.mono hb234.size)
    have hw235 := hw234.trans (hn235.mono hw234.size)
    subst hm235
    clear cc hb234 hw234 hn235
    clear k0_0 k0_1 k1_0 k1_1 k2_0 k2_1 k3_0 k3_1 k4_0 k4_1 k5_0 k5_1 k6_0 k6_1 k7_0 k7_1 k8_0 k8_1 k8_2 k8_3 k9_0 k9_1 k9_2 k9_3
    have k0_0 := (S_s.out.below hb235 S_s.out.lt).cell0
    have k0_1 := (S_s.out.below hb235 S_s.out.lt).cell1
    have k1_0 := (S_d.out.below hb235 S_d.out.lt).cell0
    have k1_1 := (S_d.out.below hb235 S_d.out.lt).cell1
    have k2_0 := (S_m.out.below hb235 S_m.out.lt).cell0
    have k2_1 := (S_m.out.below hb235 S_m.out.lt).cell1
    have k3_0 := (S_q.out.below hb235 S_q.out.lt).cell0
    have k3_1 := (S_q.out.below hb235 S_q.out.lt).cell1
    have k4_0 := (S_ra.out.below hb235 S_ra.out.lt).cell0
    have k4_1 := (S_ra.out.below hb235 S_ra.out.lt).cell1
    have k5_0 := (S_rs.out.below hb235 S_rs.out.lt).cell0
    have k5_1 := (S_rs.out.below hb235 S_rs.out.lt).cell1
    have k6_0 := (S_rm.out.below hb235 S_rm.out.lt).cell0
    have k6_1 := (S_rm.out.below hb235 S_rm.out.lt).cell1
    have k7_0 := (S_rd.out.below hb235 S_rd.out.lt).cell0
    have k7_1 := (S_rd.out.below hb235 S_rd.out.lt).cell1
    have k8_0 := (S_X.out.below hb235 S_X.out.lt).cell0
    have k8_1 := (S_X.out.below hb235 S_X.out.lt).cell1
    have k8_2 := (S_X.out.below hb235 S_X.out.lt).cell2
    have k8_3 := (S_X.out.below hb235 S_X.out.lt).cell3
    have k9_0 := (S_Y.out.below hb235 S_Y.out.lt).cell0
    have k9_1 := (S_Y.out.below hb235 S_Y.out.lt).cell1
    have k9_2 := (S_Y.out.below hb235 S_Y.out.lt).cell2
    have k9_3 := (S_Y.out.below hb235 S_Y.out.lt).cell3
    have cc := cl V235 hw235
    go_wp2_with fail
    refine cc.mono ?_
    rintro e V236 ⟨v236, rfl, hm236, hn236⟩
    have hb236 := hb235.trans (hn236.mono hb235.size)
    have hw236 := hw235.trans (hn236.mono hw235.size)
    subst hm236
    clear cc hb235 hw235 hn236
    clear k0_0 k0_1 k1_0 k1_1 k2_0 k2_1 k3_0 k3_1 k4_0 k4_1 k5_0 k5_1 k6_0 k6_1 k7_0 k7_1 k8_0 k8_1 k8_2 k8_3 k9_0 k9_1 k9_2 k9_3
    have k0_0 := (S_s.out.below hb236 S_s.out.lt).cell0
    have k0_1 := (S_s.out.below hb236 S_s.out.lt).cell1
    have k1_0 := (S_d.out.below hb236 S_d.out.lt).cell0
    have k1_1 := (S_d.out.below hb236 S_d.out.lt).cell1
    have k2_0 := (S_m.out.below hb236 S_m.out.lt).cell0
    have k2_1 := (S_m.out.below hb236 S_m.out.lt).cell1
    have k3_0 := (S_q.out.below hb236 S_q.out.lt).cell0
    have k3_1 := (S_q.out.below hb236 S_q.out.lt).cell1
    have k4_0 := (S_ra.out.below hb236 S_ra.out.lt).cell0
    have k4_1 := (S_ra.out.below hb236 S_ra.out.lt).cell1
    have k5_0 := (S_rs.out.below hb236 S_rs.out.lt).cell0
    have k5_1 := (S_rs.out.below hb236 S_rs.out.lt).cell1
    have k6_0 := (S_rm.out.below hb236 S_rm.out.lt).cell0
    have k6_1 := (S_rm.out.below hb236 S_rm.out.lt).cell1
    have k7_0 := (S_rd.out.below hb236 S_rd.out.lt).cell0
    have k7_1 := (S_rd.out.below hb236 S_rd.out.lt).cell1
    have k8_0 := (S_X.out.below hb236 S_X.out.lt).cell0
    have k8_1 := (S_X.out.below hb236 S_X.out.lt).cell1
    have k8_2 := (S_X.out.below hb236 S_X.out.lt).cell2
    have k8_3 := (S_X.out.below hb236 S_X.out.lt).cell3
    have k9_0 := (S_Y.out.below hb236 S_Y.out.lt).cell0
    have k9_1 := (S_Y.out.below hb236 S_Y.out.lt).cell1
    have k9_2 := (S_Y.out.below hb236 S_Y.out.lt).cell2
    have k9_3 := (S_Y.out.below hb236 S_Y.out.lt).cell3
    have HE := Lib.hid hw236
    clear hb236 hw236
    go_wp2
    go_ret
    exact ⟨rfl, HE.out⟩

theorem adds_all (p q r s : Int) (w : World) (hp : I64 p) (hq : I64 q) (hr : I64 r) (hs : I64 s) :
    Calls Tryz.prog 7 #[.agg #[.int .i64 p, .int .i64 q], .agg #[.int .i64 r, .int .i64 s]] w (RetV (.bool true) w) := by
  by_cases h1 : FOk (p, q)
  · by_cases h2 : FOk (r, s)
    · rcases Int.lt_trichotomy r 0 with h | h | h
      · exact adds_good2 p q r s w h1 h2 h
      · exact adds_good0 p q r s w h1 h2 h
      · exact adds_good1 p q r s w h1 h2 h
    · exact adds_bad1 p q r s w hp hq hr hs h1 h2
  · exact adds_bad0 p q r s w hp hq hr hs h1

end Go.Proofs.YtklngjjokbhfpaaGreat
