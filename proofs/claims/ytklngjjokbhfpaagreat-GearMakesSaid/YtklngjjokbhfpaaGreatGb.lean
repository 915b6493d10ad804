/- The walk of GearMakes (printed by gengb.py). -/
import Derived.Test.YtklngjjokbhfpaaGreatGa
import Derived.Test.YtklngjjokbhfpaaGreatCr
namespace Go.Proofs.YtklngjjokbhfpaaGreat
open Go.RowKit

theorem lowV_form (p q : Int) : ∃ n d e : Int, lowV p q = .tuple #[.agg #[.int .i64 n, .int .i64 d], .int .i64 e] := fracV_form _ _
theorem makeV_form (p q : Int) : ∃ n d e : Int, (if q = 0 then .tuple #[.agg #[.int .i64 0, .int .i64 0], .int .i64 4] else if q < 0 then lowV (-p) (-q) else lowV p q : Value) = .tuple #[.agg #[.int .i64 n, .int .i64 d], .int .i64 e] := by
  split
  · exact ⟨_, _, _, rfl⟩
  · split
    · exact lowV_form _ _
    · exact lowV_form _ _

set_option maxRecDepth 100000 in
set_option maxHeartbeats 3200000 in
theorem makes_all (p q : Int) (w : World) (hp : I64 p) (hq : I64 q) :
    Calls Tryz.prog 5 #[.int .i64 p, .int .i64 q] w (RetV (.bool true) w) := by
  obtain ⟨n, d, e, hv⟩ := makeV_form p q
  have c1 : ∀ W (_ : Below w.heap.size w W), Calls Tryz.prog 27 #[.int .i64 p, .int .i64 q] W (RetW (.tuple #[.agg #[.int .i64 n, .int .i64 d], .int .i64 e]) W) := fun W _ => by
    rw [← hv]; exact (qmake_any p q W hp hq).mono fun e w' h => RetW.of h
  have c2 : ∀ W (_ : Below w.heap.size w W), Calls Tryz.prog 28 #[.int .i64 p, .int .i64 q] W (RetW (.tuple #[.agg #[.int .i64 n, .int .i64 d], .int .i64 e]) W) := fun W _ => by
    rw [← hv]; exact (rmake_any p q W hp hq).mono fun e w' h => RetW.of h
  have c3 := is_w n d e (w := w)
  obtain ⟨b, hb⟩ : ∃ b : Bool × Unit, decide (FOk (p, q)) = b.1 := ⟨(_, ()), rfl⟩
  obtain ⟨z, hz⟩ : ∃ z : Int, z = (if b.1 then 0 else 2) := ⟨_, rfl⟩
  have c4 : ∀ W (_ : Below w.heap.size w W), Calls Tryz.prog 29 #[.agg #[.int .i64 p, .int .i64 q]] W (RetW (.int .i64 z) W) := fun W _ => by
    rw [hz]; exact (check_any p q W hp hq b.1 hb).mono fun e w' h => RetW.of h
  have c5 := valid_y p q b.1 hb (w := w)
  have c6 : ∀ W (_ : Below w.heap.size w W), Calls Tryz.prog 30 #[.bool b.1] W (RetW (.int .i64 z) W) := fun W _ => by
    rw [hz]; exact (form_any b.1 W).mono fun e w' h => RetW.of h
  have c7 := lives_y (w := w)
  clear hv hb hz hp hq
  obtain ⟨W3, hW3⟩ : ∃ W3, W3 = w := ⟨_, rfl⟩
  have HBW := Lib.hid (show Below w.heap.size w W3 by rw [hW3]; exact Below.refl _ _)
  go_enter Tryz.func5, Tryz.ntmps5
  go_upto_region 1 with fail
  rw [← hW3]
  clear hW3
  have hb10 := Below.refl W3.heap.size W3
  have hw10 := HBW.out
  have cc := c1 W3 hw10
  go_wp2_with fail
  refine cc.mono ?_
  rintro e V11 ⟨v11, rfl, hm11, hn11⟩
  have hb11 := hb10.trans (hn11.mono hb10.size)
  have hw11 := hw10.trans (hn11.mono hw10.size)
  subst hm11
  clear cc hb10 hw10 hn11
  obtain ⟨N2, hNB⟩ : ∃ N2, N2 = V11.heap.size := ⟨_, rfl⟩
  obtain ⟨U2, hU⟩ : ∃ U2, U2 = V11.alloc (.cells #[.int .i64 n, .int .i64 d] 28) := ⟨_, rfl⟩
  have HU := Lib.hid (show U2 = _ ∧ N2 = _ from ⟨hU, hNB⟩)
  clear hU hNB
  go_upto_region 2 with fail
  rw [← HU.out.2, ← HU.out.1]
  have hbU := hb11.alloc hb11.size (.cells #[.int .i64 n, .int .i64 d] 28)
  have hwU := hw11.alloc hw11.size (.cells #[.int .i64 n, .int .i64 d] 28)
  rw [← HU.out.1] at hbU hwU
  have F2_a := Lib.hid (show Two U2 N2 (.int .i64 n) (.int .i64 d) 28 by rw [HU.out.1, HU.out.2]; exact Two.newAt _ _ _ _ _ rfl)
  have B2_ := Lib.hid hwU
  clear HU hbU hwU hb11 hw11 HBW
  have hb30 := Below.refl U2.heap.size U2
  have hw30 := B2_.out
  have cc := c2 U2 hw30
  go_wp2_with fail
  refine cc.mono ?_
  rintro e V31 ⟨v31, rfl, hm31, hn31⟩
  have hb31 := hb30.trans (hn31.mono hb30.size)
  have hw31 := hw30.trans (hn31.mono hw30.size)
  subst hm31
  clear cc hb30 hw30 hn31
  obtain ⟨N4, hNB⟩ : ∃ N4, N4 = V31.heap.size := ⟨_, rfl⟩
  obtain ⟨U4, hU⟩ : ∃ U4, U4 = V31.alloc (.cells #[.int .i64 n, .int .i64 d] 28) := ⟨_, rfl⟩
  have HU := Lib.hid (show U4 = _ ∧ N4 = _ from ⟨hU, hNB⟩)
  clear hU hNB
  go_upto_region 3 with fail
  rw [← HU.out.2, ← HU.out.1]
  have hbU := hb31.alloc hb31.size (.cells #[.int .i64 n, .int .i64 d] 28)
  have hwU := hw31.alloc hw31.size (.cells #[.int .i64 n, .int .i64 d] 28)
  rw [← HU.out.1] at hbU hwU
  have F4_a := Lib.hid (F2_a.out.below hbU F2_a.out.lt)
  have F4_b := Lib.hid (show Two U4 N4 (.int .i64 n) (.int .i64 d) 28 by rw [HU.out.1, HU.out.2]; exact Two.newAt _ _ _ _ _ rfl)
  have B4_ := Lib.hid hwU
  clear HU hbU hwU hb31 hw31 F2_a B2_
  have hb0_ := Below.refl U4.heap.size U4
  have hw0_ := B4_.out
  obtain ⟨N5, hNB⟩ : ∃ N5, N5 = U4.heap.size := ⟨_, rfl⟩
  obtain ⟨U5, hU⟩ : ∃ U5, U5 = U4.alloc (.cells #[.int .i64 p, .int .i64 q] 28) := ⟨_, rfl⟩
  have HU := Lib.hid (show U5 = _ ∧ N5 = _ from ⟨hU, hNB⟩)
  clear hU hNB
  go_upto_region 4 with fail
  rw [← HU.out.2, ← HU.out.1]
  have hbU := hb0_.alloc hb0_.size (.cells #[.int .i64 p, .int .i64 q] 28)
  have hwU := hw0_.alloc hw0_.size (.cells #[.int .i64 p, .int .i64 q] 28)
  rw [← HU.out.1] at hbU hwU
  have F5_a := Lib.hid (F4_a.out.below hbU F4_a.out.lt)
  have F5_b := Lib.hid (F4_b.out.below hbU F4_b.out.lt)
  have F5_r := Lib.hid (show Two U5 N5 (.int .i64 p) (.int .i64 q) 28 by rw [HU.out.1, HU.out.2]; exact Two.newAt _ _ _ _ _ rfl)
  have B5_ := Lib.hid hwU
  clear HU hbU hwU hb0_ hw0_ F4_a F4_b B4_
  refine Lex.wp_region_lex (fun w' => Two w' N2 (.int .i64 n) (.int .i64 d) 28 ∧ Two w' N4 (.int .i64 n) (.int .i64 d) 28 ∧ Two w' N5 (.int .i64 p) (.int .i64 q) 28) (fun _ => true)
    [(0, true), (1, true), (2, true), (3, true), (4, false), (5, true), (6, true), (8, true), (7, false), (9, false), (10, false), (11, true), (12, true), (13, true), (14, false), (15, true), (16, false)]
    (by kernel_rfl) (by kernel_rfl) (by kernel_rfl) (by kernel_rfl) ⟨F5_a.out, F5_b.out, F5_r.out⟩ ?_
  have hb60 : Below U5.heap.size U5 U5.drew := ⟨rfl, rfl, rfl, Nat.le_refl _, fun _ _ => rfl⟩
  have hw60 : Below w.heap.size w U5.drew := ⟨B5_.out.os, B5_.out.tape, B5_.out.output, B5_.out.size, B5_.out.block⟩
  generalize hV0 : U5.drew = V60 at *
  clear hV0
  refine Lex.lex_take (v := ?_) rfl rfl (by rfl) (fun _ hS => ?_) ?_; rotate_left 1; (focus (have g0_0 := hS.1.cell0; have g0_1 := hS.1.cell1; have g1_0 := hS.2.1.cell0; have g1_1 := hS.2.1.cell1; have g2_0 := hS.2.2.cell0; have g2_1 := hS.2.2.cell1; clear hS; go_simp; with_reducible rfl)); simp only [List.setIfInBounds_toArray, List.set_cons_zero, List.set_cons_succ]
  refine Lex.lex_take (v := ?_) rfl rfl (by rfl) (fun _ hS => ?_) ?_; rotate_left 1; (focus (have g0_0 := hS.1.cell0; have g0_1 := hS.1.cell1; have g1_0 := hS.2.1.cell0; have g1_1 := hS.2.1.cell1; have g2_0 := hS.2.2.cell0; have g2_1 := hS.2.2.cell1; clear hS; go_simp; with_reducible rfl)); simp only [List.setIfInBounds_toArray, List.set_cons_zero, List.set_cons_succ]
  refine Lex.lex_take (v := ?_) rfl rfl (by rfl) (fun _ hS => ?_) ?_; rotate_left 1; (focus (have g0_0 := hS.1.cell0; have g0_1 := hS.1.cell1; have g1_0 := hS.2.1.cell0; have g1_1 := hS.2.1.cell1; have g2_0 := hS.2.2.cell0; have g2_1 := hS.2.2.cell1; clear hS; go_simp; with_reducible rfl)); simp only [List.setIfInBounds_toArray, List.set_cons_zero, List.set_cons_succ]
  refine Lex.lex_take (v := ?_) rfl rfl (by rfl) (fun _ hS => ?_) ?_; rotate_left 1; (focus (have g0_0 := hS.1.cell0; have g0_1 := hS.1.cell1; have g1_0 := hS.2.1.cell0; have g1_1 := hS.2.1.cell1; have g2_0 := hS.2.2.cell0; have g2_1 := hS.2.2.cell1; clear hS; go_simp; with_reducible rfl)); simp only [List.setIfInBounds_toArray, List.set_cons_zero, List.set_cons_succ]
  refine Lex.lex_do rfl ?_
  have cc := c3 V60 hw60
  go_wp2_with fail
  refine cc.mono ?_
  rintro e V61 ⟨v61, rfl, hm61, hn61⟩
  have hb61 := hb60.trans (hn61.mono hb60.size)
  have hw61 := hw60.trans (hn61.mono hw60.size)
  subst hm61
  clear cc hb60 hw60 hn61
  go_wp2_with fail
  refine Lex.lexQ_normal (fun _ => ⟨F5_a.out.below hb61 F5_a.out.lt, F5_b.out.below hb61 F5_b.out.lt, F5_r.out.below hb61 F5_r.out.lt⟩) ?_
  refine Lex.lex_take (v := ?_) rfl rfl (by rfl) (fun _ hS => ?_) ?_; rotate_left 1; (focus (have g0_0 := hS.1.cell0; have g0_1 := hS.1.cell1; have g1_0 := hS.2.1.cell0; have g1_1 := hS.2.1.cell1; have g2_0 := hS.2.2.cell0; have g2_1 := hS.2.2.cell1; clear hS; go_simp; with_reducible rfl)); simp only [List.setIfInBounds_toArray, List.set_cons_zero, List.set_cons_succ]
  refine Lex.lex_take (v := ?_) rfl rfl (by rfl) (fun _ hS => ?_) ?_; rotate_left 1; (focus (have g0_0 := hS.1.cell0; have g0_1 := hS.1.cell1; have g1_0 := hS.2.1.cell0; have g1_1 := hS.2.1.cell1; have g2_0 := hS.2.2.cell0; have g2_1 := hS.2.2.cell1; clear hS; go_simp; with_reducible rfl)); simp only [List.setIfInBounds_toArray, List.set_cons_zero, List.set_cons_succ]
  refine Lex.lex_take (v := ?_) rfl rfl (by rfl) (fun _ hS => ?_) ?_; rotate_left 1; (focus (have g0_0 := hS.1.cell0; have g0_1 := hS.1.cell1; have g1_0 := hS.2.1.cell0; have g1_1 := hS.2.1.cell1; have g2_0 := hS.2.2.cell0; have g2_1 := hS.2.2.cell1; clear hS; go_simp; with_reducible rfl)); simp only [List.setIfInBounds_toArray, List.set_cons_zero, List.set_cons_succ]
  refine Lex.lex_do rfl ?_
  have cc := c4 V61 hw61
  go_wp2_with fail
  refine cc.mono ?_
  rintro e V62 ⟨v62, rfl, hm62, hn62⟩
  have hb62 := hb61.trans (hn62.mono hb61.size)
  have hw62 := hw61.trans (hn62.mono hw61.size)
  subst hm62
  clear cc hb61 hw61 hn62
  go_wp2_with fail
  refine Lex.lexQ_normal (fun _ => ⟨F5_a.out.below hb62 F5_a.out.lt, F5_b.out.below hb62 F5_b.out.lt, F5_r.out.below hb62 F5_r.out.lt⟩) ?_
  refine Lex.lex_do rfl ?_
  have cc := c5 V62 hw62
  go_wp2_with fail
  refine cc.mono ?_
  rintro e V63 ⟨v63, rfl, hm63, hn63⟩
  have hb63 := hb62.trans (hn63.mono hb62.size)
  have hw63 := hw62.trans (hn63.mono hw62.size)
  subst hm63
  clear cc hb62 hw62 hn63
  go_wp2_with fail
  refine Lex.lexQ_normal (fun _ => ⟨F5_a.out.below hb63 F5_a.out.lt, F5_b.out.below hb63 F5_b.out.lt, F5_r.out.below hb63 F5_r.out.lt⟩) ?_
  refine Lex.lex_do rfl ?_
  have cc := c6 V63 hw63
  go_wp2_with fail
  refine cc.mono ?_
  rintro e V64 ⟨v64, rfl, hm64, hn64⟩
  have hb64 := hb63.trans (hn64.mono hb63.size)
  have hw64 := hw63.trans (hn64.mono hw63.size)
  subst hm64
  clear cc hb63 hw63 hn64
  go_wp2_with fail
  refine Lex.lexQ_normal (fun _ => ⟨F5_a.out.below hb64 F5_a.out.lt, F5_b.out.below hb64 F5_b.out.lt, F5_r.out.below hb64 F5_r.out.lt⟩) ?_
  refine Lex.lex_take (v := ?_) rfl rfl (by rfl) (fun _ hS => ?_) ?_; rotate_left 1; (focus (have g0_0 := hS.1.cell0; have g0_1 := hS.1.cell1; have g1_0 := hS.2.1.cell0; have g1_1 := hS.2.1.cell1; have g2_0 := hS.2.2.cell0; have g2_1 := hS.2.2.cell1; clear hS; go_simp; with_reducible rfl)); simp only [List.setIfInBounds_toArray, List.set_cons_zero, List.set_cons_succ]
  refine Lex.lex_take (v := ?_) rfl rfl (by rfl) (fun _ hS => ?_) ?_; rotate_left 1; (focus (have g0_0 := hS.1.cell0; have g0_1 := hS.1.cell1; have g1_0 := hS.2.1.cell0; have g1_1 := hS.2.1.cell1; have g2_0 := hS.2.2.cell0; have g2_1 := hS.2.2.cell1; clear hS; go_simp; with_reducible rfl)); simp only [List.setIfInBounds_toArray, List.set_cons_zero, List.set_cons_succ]
  refine Lex.lex_take (v := ?_) rfl rfl (by rfl) (fun _ hS => ?_) ?_; rotate_left 1; (focus (have g0_0 := hS.1.cell0; have g0_1 := hS.1.cell1; have g1_0 := hS.2.1.cell0; have g1_1 := hS.2.1.cell1; have g2_0 := hS.2.2.cell0; have g2_1 := hS.2.2.cell1; clear hS; go_simp; with_reducible rfl)); simp only [List.setIfInBounds_toArray, List.set_cons_zero, List.set_cons_succ]
  refine Lex.lex_do rfl ?_
  have cc := c7 V64 hw64
  go_wp2_with fail
  refine cc.mono ?_
  rintro e V65 ⟨v65, rfl, hm65, hn65⟩
  have hb65 := hb64.trans (hn65.mono hb64.size)
  have hw65 := hw64.trans (hn65.mono hw64.size)
  subst hm65
  clear cc hb64 hw64 hn65
  go_wp2_with fail
  refine Lex.lexQ_normal (fun _ => ⟨F5_a.out.below hb65 F5_a.out.lt, F5_b.out.below hb65 F5_b.out.lt, F5_r.out.below hb65 F5_r.out.lt⟩) ?_
  refine Lex.lex_take (v := ?_) rfl rfl (by rfl) (fun _ hS => ?_) ?_; rotate_left 1; (focus (have g0_0 := hS.1.cell0; have g0_1 := hS.1.cell1; have g1_0 := hS.2.1.cell0; have g1_1 := hS.2.1.cell1; have g2_0 := hS.2.2.cell0; have g2_1 := hS.2.2.cell1; clear hS; go_simp; with_reducible rfl)); simp only [List.setIfInBounds_toArray, List.set_cons_zero, List.set_cons_succ]
  refine Lex.lex_do rfl ?_
  go_wp2_with fail
  refine Lex.lexQ_normal (fun _ => ⟨F5_a.out.below hb65 F5_a.out.lt, F5_b.out.below hb65 F5_b.out.lt, F5_r.out.below hb65 F5_r.out.lt⟩) ?_
  refine Lex.lex_nil ?_
  have HE := Lib.hid hw65
  clear hb65 hw65
  go_wp2
  go_ret
  exact ⟨rfl, HE.out⟩

end Go.Proofs.YtklngjjokbhfpaaGreat
