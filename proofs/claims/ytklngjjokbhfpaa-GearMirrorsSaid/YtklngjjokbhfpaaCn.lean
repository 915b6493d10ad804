/- The walk of GearMirrors (printed by gencn.py). -/
import Derived.Test.YtklngjjokbhfpaaCl
namespace Go.Proofs.Ytklngjjokbhfpaa
open Go.RowKit

set_option maxRecDepth 100000 in
set_option maxHeartbeats 3200000 in
theorem mirrors_a (p q r s : Int) (w : World) (h : ¬ FOk (p, q)) :
    Calls Try.prog 5 #[.agg #[.int .i64 p, .int .i64 q], .agg #[.int .i64 r, .int .i64 s]] w (RetV (.bool true) w) := by
  have cv1 := valid_w p q false (decide_eq_false h) (w := w)
  clear h
  obtain ⟨W3, hW3⟩ : ∃ W3, W3 = ((w.alloc (.cells #[.int .i64 p, .int .i64 q] 23)).alloc (.cells #[.int .i64 r, .int .i64 s] 23)) := ⟨_, rfl⟩
  have hB : Below w.heap.size w W3 := by rw [hW3]; exact (((Below.refl _ _).alloc (Nat.le_refl _) _).alloc (by simp; try omega) _)
  have HBW := Lib.hid hB
  have HF := Lib.hid (show Two W3 (w.heap.size) (.int .i64 p) (.int .i64 q) 23 by rw [hW3]; exact (((Two.newAt _ _ _ _ _ (by simp))).alloc _))
  have HG := Lib.hid (show Two W3 (w.heap.size + 1) (.int .i64 r) (.int .i64 s) 23 by rw [hW3]; exact (Two.newAt _ _ _ _ _ (by simp)))
  clear hB
  go_enter Try.func5, Try.ntmps5
  go_upto_region 1 with fail
  rw [← hW3]
  clear hW3
  have k0_0 := HF.out.cell0
  have k0_1 := HF.out.cell1
  have k1_0 := HG.out.cell0
  have k1_1 := HG.out.cell1
  have hb0 := Below.refl W3.heap.size W3
  have hw0 := HBW.out
  have cc := cv1 W3 hw0
  go_wp2_with fail
  refine cc.mono ?_
  rintro e V1 ⟨v1, rfl, hm1, hn1⟩
  have hb1 := hb0.trans (hn1.mono hb0.size)
  have hw1 := hw0.trans (hn1.mono hw0.size)
  subst hm1
  clear cc hb0 hw0 hn1
  clear k0_0 k0_1 k1_0 k1_1
  have k0_0 := (HF.out.below hb1 HF.out.lt).cell0
  have k0_1 := (HF.out.below hb1 HF.out.lt).cell1
  have k1_0 := (HG.out.below hb1 HG.out.lt).cell0
  have k1_1 := (HG.out.below hb1 HG.out.lt).cell1
  have HF0 := Lib.hid (HF.out.below hb1 HF.out.lt)
  have HG0 := Lib.hid (HG.out.below hb1 HG.out.lt)
  have HB0 := Lib.hid hw1
  clear hb1 hw1 HF HG HBW
  clear k0_0 k0_1 k1_0 k1_1
  have k9 := lives_w _ HB0.out
  go_wp2_with fail
  refine k9.mono ?_
  rintro e VE ⟨vE, rfl, hmE, hnE⟩
  subst hmE
  have HE := Lib.hid (HB0.out.trans (hnE.mono HB0.out.size))
  clear k9 hnE
  go_wp2
  go_ret
  exact ⟨rfl, HE.out⟩

set_option maxRecDepth 100000 in
set_option maxHeartbeats 3200000 in
theorem mirrors_b (p q r s : Int) (w : World) (h1 : FOk (p, q)) (h : ¬ FOk (r, s)) :
    Calls Try.prog 5 #[.agg #[.int .i64 p, .int .i64 q], .agg #[.int .i64 r, .int .i64 s]] w (RetV (.bool true) w) := by
  have cv1 := valid_w p q true (decide_eq_true h1) (w := w)
  have cv2 := valid_w r s false (decide_eq_false h) (w := w)
  clear h1 h
  obtain ⟨W3, hW3⟩ : ∃ W3, W3 = ((w.alloc (.cells #[.int .i64 p, .int .i64 q] 23)).alloc (.cells #[.int .i64 r, .int .i64 s] 23)) := ⟨_, rfl⟩
  have hB : Below w.heap.size w W3 := by rw [hW3]; exact (((Below.refl _ _).alloc (Nat.le_refl _) _).alloc (by simp; try omega) _)
  have HBW := Lib.hid hB
  have HF := Lib.hid (show Two W3 (w.heap.size) (.int .i64 p) (.int .i64 q) 23 by rw [hW3]; exact (((Two.newAt _ _ _ _ _ (by simp))).alloc _))
  have HG := Lib.hid (show Two W3 (w.heap.size + 1) (.int .i64 r) (.int .i64 s) 23 by rw [hW3]; exact (Two.newAt _ _ _ _ _ (by simp)))
  clear hB
  go_enter Try.func5, Try.ntmps5
  go_upto_region 1 with fail
  rw [← hW3]
  clear hW3
  have k0_0 := HF.out.cell0
  have k0_1 := HF.out.cell1
  have k1_0 := HG.out.cell0
  have k1_1 := HG.out.cell1
  have hb0 := Below.refl W3.heap.size W3
  have hw0 := HBW.out
  have cc := cv1 W3 hw0
  go_wp2_with fail
  refine cc.mono ?_
  rintro e V1 ⟨v1, rfl, hm1, hn1⟩
  have hb1 := hb0.trans (hn1.mono hb0.size)
  have hw1 := hw0.trans (hn1.mono hw0.size)
  subst hm1
  clear cc hb0 hw0 hn1
  clear k0_0 k0_1 k1_0 k1_1
  have k0_0 := (HF.out.below hb1 HF.out.lt).cell0
  have k0_1 := (HF.out.below hb1 HF.out.lt).cell1
  have k1_0 := (HG.out.below hb1 HG.out.lt).cell0
  have k1_1 := (HG.out.below hb1 HG.out.lt).cell1
  have cc := cv2 V1 hw1
  go_wp2_with fail
  refine cc.mono ?_
  rintro e V2 ⟨v2, rfl, hm2, hn2⟩
  have hb2 := hb1.trans (hn2.mono hb1.size)
  have hw2 := hw1.trans (hn2.mono hw1.size)
  subst hm2
  clear cc hb1 hw1 hn2
  clear k0_0 k0_1 k1_0 k1_1
  have k0_0 := (HF.out.below hb2 HF.out.lt).cell0
  have k0_1 := (HF.out.below hb2 HF.out.lt).cell1
  have k1_0 := (HG.out.below hb2 HG.out.lt).cell0
  have k1_1 := (HG.out.below hb2 HG.out.lt).cell1
  have HF0 := Lib.hid (HF.out.below hb2 HF.out.lt)
  have HG0 := Lib.hid (HG.out.below hb2 HG.out.lt)
  have HB0 := Lib.hid hw2
  clear hb2 hw2 HF HG HBW
  clear k0_0 k0_1 k1_0 k1_1
  have k9 := lives_w _ HB0.out
  go_wp2_with fail
  refine k9.mono ?_
  rintro e VE ⟨vE, rfl, hmE, hnE⟩
  subst hmE
  have HE := Lib.hid (HB0.out.trans (hnE.mono HB0.out.size))
  clear k9 hnE
  go_wp2
  go_ret
  exact ⟨rfl, HE.out⟩

set_option maxRecDepth 100000 in
set_option maxHeartbeats 3200000 in
theorem mirrors_c (p q r s : Int) (w : World) (h1 : FOk (p, q)) (h2 : FOk (r, s)) :
    Calls Try.prog 5 #[.agg #[.int .i64 p, .int .i64 q], .agg #[.int .i64 r, .int .i64 s]] w (RetV (.bool true) w) := by
  have cv1 := valid_w p q true (decide_eq_true h1) (w := w)
  have cv2 := valid_w r s true (decide_eq_true h2) (w := w)
  obtain ⟨W3, hW3⟩ : ∃ W3, W3 = ((w.alloc (.cells #[.int .i64 p, .int .i64 q] 23)).alloc (.cells #[.int .i64 r, .int .i64 s] 23)) := ⟨_, rfl⟩
  have hB : Below w.heap.size w W3 := by rw [hW3]; exact (((Below.refl _ _).alloc (Nat.le_refl _) _).alloc (by simp; try omega) _)
  have HBW := Lib.hid hB
  have HF := Lib.hid (show Two W3 (w.heap.size) (.int .i64 p) (.int .i64 q) 23 by rw [hW3]; exact (((Two.newAt _ _ _ _ _ (by simp))).alloc _))
  have HG := Lib.hid (show Two W3 (w.heap.size + 1) (.int .i64 r) (.int .i64 s) 23 by rw [hW3]; exact (Two.newAt _ _ _ _ _ (by simp)))
  clear hB
  go_enter Try.func5, Try.ntmps5
  go_upto_region 1 with fail
  rw [← hW3]
  clear hW3
  have k0_0 := HF.out.cell0
  have k0_1 := HF.out.cell1
  have k1_0 := HG.out.cell0
  have k1_1 := HG.out.cell1
  have hb0 := Below.refl W3.heap.size W3
  have hw0 := HBW.out
  have cc := cv1 W3 hw0
  go_wp2_with fail
  refine cc.mono ?_
  rintro e V1 ⟨v1, rfl, hm1, hn1⟩
  have hb1 := hb0.trans (hn1.mono hb0.size)
  have hw1 := hw0.trans (hn1.mono hw0.size)
  subst hm1
  clear cc hb0 hw0 hn1
  clear k0_0 k0_1 k1_0 k1_1
  have k0_0 := (HF.out.below hb1 HF.out.lt).cell0
  have k0_1 := (HF.out.below hb1 HF.out.lt).cell1
  have k1_0 := (HG.out.below hb1 HG.out.lt).cell0
  have k1_1 := (HG.out.below hb1 HG.out.lt).cell1
  have cc := cv2 V1 hw1
  go_wp2_with fail
  refine cc.mono ?_
  rintro e V2 ⟨v2, rfl, hm2, hn2⟩
  have hb2 := hb1.trans (hn2.mono hb1.size)
  have hw2 := hw1.trans (hn2.mono hw1.size)
  subst hm2
  clear cc hb1 hw1 hn2
  clear k0_0 k0_1 k1_0 k1_1
  have k0_0 := (HF.out.below hb2 HF.out.lt).cell0
  have k0_1 := (HF.out.below hb2 HF.out.lt).cell1
  have k1_0 := (HG.out.below hb2 HG.out.lt).cell0
  have k1_1 := (HG.out.below hb2 HG.out.lt).cell1
  have HF0 := Lib.hid (HF.out.below hb2 HF.out.lt)
  have HG0 := Lib.hid (HG.out.below hb2 HG.out.lt)
  have HB0 := Lib.hid hw2
  clear hb2 hw2 HF HG HBW
  clear k0_0 k0_1 k1_0 k1_1
  go_upto_region 3 with fail
  go_cut [5, 6] (fun s5 s6 wx => ∃ B5 B6 : Nat, s5 = .pointer (some ⟨B5, 0, none⟩) ∧ s6 = .pointer (some ⟨B6, 0, none⟩) ∧ w.heap.size + 1 < B5 ∧ w.heap.size + 1 < B6 ∧ B5 ≠ B6 ∧ Two wx B5 (.int .i64 p) (.int .i64 q) 23 ∧ Two wx B6 (.int .i64 r) (.int .i64 s) 23 ∧ Two wx w.heap.size (.int .i64 p) (.int .i64 q) 23 ∧ Two wx (w.heap.size + 1) (.int .i64 r) (.int .i64 s) 23 ∧ Below w.heap.size w wx)
  case first =>
    have k0 := HF0.out.cell0
    have k1 := HF0.out.cell1
    have k2 := HG0.out.cell0
    have k3 := HG0.out.cell1
    have hsz := HG0.out.lt
    go_region_held3 (fun w' => w'.cell? ⟨w.heap.size, 0, none⟩ = some (.int .i64 p) ∧ w'.cell? ⟨w.heap.size, 1, none⟩ = some (.int .i64 q) ∧ w'.cell? ⟨w.heap.size + 1, 0, none⟩ = some (.int .i64 r) ∧ w'.cell? ⟨w.heap.size + 1, 1, none⟩ = some (.int .i64 s)) (go_keep) (fail)
    all_goals
      go_wp2_with fail
      go_meet
      first
        | exact ⟨V2.heap.size, V2.heap.size + 1, rfl, rfl, by omega, by omega, by omega, ((Two.newAt _ _ _ _ _ rfl).alloc _).drew, (Two.newAt _ _ _ _ _ (by simp)).drew, ((HF0.out.alloc _).alloc _).drew, ((HG0.out.alloc _).alloc _).drew, ((HB0.out.alloc HB0.out.size _).alloc (by have := HB0.out.size; simp; omega) _).drew⟩
        | exact ⟨V2.heap.size + 1, V2.heap.size, rfl, rfl, by omega, by omega, by omega, (Two.newAt _ _ _ _ _ (by simp)).drew, ((Two.newAt _ _ _ _ _ rfl).alloc _).drew, ((HF0.out.alloc _).alloc _).drew, ((HG0.out.alloc _).alloc _).drew, ((HB0.out.alloc HB0.out.size _).alloc (by have := HB0.out.size; simp; omega) _).drew⟩
  case rest =>
    obtain ⟨B5, B6, rfl, rfl, hb5, hb6, hne, T5, T6, TF, TG, hbw⟩ := hcut
    clear HF0 HG0 HB0
    have H5 := Lib.hid T5
    have H6 := Lib.hid T6
    have HF := Lib.hid TF
    have HG := Lib.hid TG
    have HBC := Lib.hid hbw
    clear T5 T6 TF TG hbw
    go_upto_region 4 with fail
    have coX := of_w h1 (w := w)
    have coY := of_w h2 (w := w)
    have ccXY := cmp_w p q r s (w := w)
    have hs1 := fun h => sgn_pos (a := p * s) (b := r * q) h
    have hs2 := fun h => sgn_le (a := p * s) (b := r * q) h
    generalize sgn (p * s - r * q) = sg at *
    refine Lex.wp_region_lex (fun w' => Two w' w.heap.size (.int .i64 p) (.int .i64 q) 23 ∧ Two w' (w.heap.size + 1) (.int .i64 r) (.int .i64 s) 23) (fun _ => true)
      [(0, true), (2, true), (1, false), (3, false), (4, false), (5, false)]
      (by kernel_rfl) (by kernel_rfl) (by kernel_rfl) (by kernel_rfl) ⟨HF.out, HG.out⟩ ?_
    have hb10 : Below wc.heap.size wc wc.drew := ⟨rfl, rfl, rfl, Nat.le_refl _, fun _ _ => rfl⟩
    have hw10 : Below w.heap.size w wc.drew := ⟨HBC.out.os, HBC.out.tape, HBC.out.output, HBC.out.size, HBC.out.block⟩
    generalize hV0 : wc.drew = V10 at *
    clear hV0
    refine Lex.lex_take (v := ?_) rfl rfl (by rfl) (fun _ hS => ?_) ?_; rotate_left 1; (focus (have g0_0 := hS.1.cell0; have g0_1 := hS.1.cell1; have g1_0 := hS.2.cell0; have g1_1 := hS.2.cell1; clear hS; go_simp; with_reducible rfl)); simp only [List.setIfInBounds_toArray, List.set_cons_zero, List.set_cons_succ]
    refine Lex.lex_take (v := ?_) rfl rfl (by rfl) (fun _ hS => ?_) ?_; rotate_left 1; (focus (have g0_0 := hS.1.cell0; have g0_1 := hS.1.cell1; have g1_0 := hS.2.cell0; have g1_1 := hS.2.cell1; clear hS; go_simp; with_reducible rfl)); simp only [List.setIfInBounds_toArray, List.set_cons_zero, List.set_cons_succ]
    refine Lex.lex_do rfl ?_
    have cc := coX V10 hw10
    go_wp2_with fail
    refine cc.mono ?_
    rintro e V11 ⟨v11, rfl, hm11, hn11⟩
    have hb11 := hb10.trans (hn11.mono hb10.size)
    have hw11 := hw10.trans (hn11.mono hw10.size)
    clear cc hb10 hw10 hn11
    go_wp2_with fail
    refine Lex.lexQ_normal (fun _ => ⟨HF.out.below hb11 HF.out.lt, HG.out.below hb11 HG.out.lt⟩) ?_
    refine Lex.lex_do rfl ?_
    have cc := coY V11 hw11
    go_wp2_with fail
    refine cc.mono ?_
    rintro e V12 ⟨v12, rfl, hm12, hn12⟩
    have hb12 := hb11.trans (hn12.mono hb11.size)
    have hw12 := hw11.trans (hn12.mono hw11.size)
    have hm11 := hm11.below hn12
    clear cc hb11 hw11 hn12
    go_wp2_with fail
    refine Lex.lexQ_normal (fun _ => ⟨HF.out.below hb12 HF.out.lt, HG.out.below hb12 HG.out.lt⟩) ?_
    refine Lex.lex_do rfl ?_
    have cc := ccXY V12 hw12 _ _ hm11 hm12
    go_wp2_with fail
    refine cc.mono ?_
    rintro e V13 ⟨v13, rfl, hm13, hn13⟩
    have hb13 := hb12.trans (hn13.mono hb12.size)
    have hw13 := hw12.trans (hn13.mono hw12.size)
    clear hm11 hm12
    subst hm13
    clear cc hb12 hw12 hn13
    go_wp2_with fail
    refine Lex.lexQ_normal (fun _ => ⟨HF.out.below hb13 HF.out.lt, HG.out.below hb13 HG.out.lt⟩) ?_
    refine Lex.lex_do rfl ?_
    go_wp2_with fail
    refine Lex.lexQ_normal (fun _ => ⟨HF.out.below hb13 HF.out.lt, HG.out.below hb13 HG.out.lt⟩) ?_
    refine Lex.lex_nil ?_
    have HB1 := Lib.hid hw13
    have HK := Lib.hid hb13
    have HF1 := Lib.hid (HF.out.below hb13 HF.out.lt)
    have HG1 := Lib.hid (HG.out.below hb13 HG.out.lt)
    have HT5 := Lib.hid (H5.out.below hb13 H5.out.lt)
    have HT6 := Lib.hid (H6.out.below hb13 H6.out.lt)
    clear hb13 hw13 coX coY ccXY
    go_upto_if 29 with fail
    generalize hbb : decide (0 < sg) = bb at *
    go_cut [] (fun wx => ∃ l1 l2 g1 g2 : Int, FOk (l1, l2) ∧ FOk (g1, g2) ∧ ¬ 0 < l1 * g2 - g1 * l2 ∧ Two wx B5 (.int .i64 l1) (.int .i64 l2) 23 ∧ Two wx B6 (.int .i64 g1) (.int .i64 g2) 23 ∧ Two wx w.heap.size (.int .i64 p) (.int .i64 q) 23 ∧ Two wx (w.heap.size + 1) (.int .i64 r) (.int .i64 s) 23 ∧ Below w.heap.size w wx)
    case first =>
      cases bb with
      | true =>
        have hgt : 0 < p * s - r * q := by
          have := of_decide_eq_true hbb
          by_cases h : p * s ≤ r * q
          · have := hs2 h; omega
          · omega
        clear hs1 hs2 hbb
        go_upto_region 5 with fail
        refine Lex.wp_region_lex (fun w' => Two w' w.heap.size (.int .i64 p) (.int .i64 q) 23 ∧ Two w' (w.heap.size + 1) (.int .i64 r) (.int .i64 s) 23) (fun _ => true)
          [(0, true), (1, true), (2, false), (3, false)]
          (by kernel_rfl) (by kernel_rfl) (by kernel_rfl) (by kernel_rfl) ⟨HF1.out, HG1.out⟩ ?_
        have hb14 : Below V13.heap.size V13 V13.drew := ⟨rfl, rfl, rfl, Nat.le_refl _, fun _ _ => rfl⟩
        have hw14 : Below w.heap.size w V13.drew := ⟨HB1.out.os, HB1.out.tape, HB1.out.output, HB1.out.size, HB1.out.block⟩
        generalize hV0 : V13.drew = V14 at *
        clear hV0
        refine Lex.lex_take (v := ?_) rfl rfl (by rfl) (fun _ hS => ?_) ?_; rotate_left 1; (focus (have g0_0 := hS.1.cell0; have g0_1 := hS.1.cell1; have g1_0 := hS.2.cell0; have g1_1 := hS.2.cell1; clear hS; go_simp; with_reducible rfl)); simp only [List.setIfInBounds_toArray, List.set_cons_zero, List.set_cons_succ]
        refine Lex.lex_take (v := ?_) rfl rfl (by rfl) (fun _ hS => ?_) ?_; rotate_left 1; (focus (have g0_0 := hS.1.cell0; have g0_1 := hS.1.cell1; have g1_0 := hS.2.cell0; have g1_1 := hS.2.cell1; clear hS; go_simp; with_reducible rfl)); simp only [List.setIfInBounds_toArray, List.set_cons_zero, List.set_cons_succ]
        refine Lex.lex_do rfl ?_
        have F5 := HT5.out.below hb14 HT5.out.lt
        have F6 := HT6.out.below hb14 HT6.out.lt
        have FF := HF1.out.below hb14 HF1.out.lt
        have FG := HG1.out.below hb14 HG1.out.lt
        have r0 := F5.cell0
        have r1 := F5.cell1
        have r2 := F6.cell0
        have r3 := F6.cell1
        have f0 := F5.free 0
        have f1 := F5.free 1
        have f2 := F6.free 0
        have f3 := F6.free 1
        have E0 := ((FF.setOther ⟨B5, 0, none⟩ (.int .i64 r) (by dsimp only; omega)).setOther ⟨B5, 1, none⟩ (.int .i64 s) (by dsimp only; omega))
        have E1 := ((FG.setOther ⟨B5, 0, none⟩ (.int .i64 r) (by dsimp only; omega)).setOther ⟨B5, 1, none⟩ (.int .i64 s) (by dsimp only; omega))
        have HN5 := Lib.hid ((((F5.set0 (.int .i64 r)).set1 (.int .i64 s)).setOther ⟨B6, 0, none⟩ (.int .i64 p) (by dsimp only; omega)).setOther ⟨B6, 1, none⟩ (.int .i64 q) (by dsimp only; omega))
        have HN6 := Lib.hid ((((F6.setOther ⟨B5, 0, none⟩ (.int .i64 r) (by dsimp only; omega)).setOther ⟨B5, 1, none⟩ (.int .i64 s) (by dsimp only; omega)).set0 (.int .i64 p)).set1 (.int .i64 q))
        have HNF := Lib.hid ((E0.setOther ⟨B6, 0, none⟩ (.int .i64 p) (by dsimp only; omega)).setOther ⟨B6, 1, none⟩ (.int .i64 q) (by dsimp only; omega))
        have HNG := Lib.hid ((E1.setOther ⟨B6, 0, none⟩ (.int .i64 p) (by dsimp only; omega)).setOther ⟨B6, 1, none⟩ (.int .i64 q) (by dsimp only; omega))
        have HNB := Lib.hid ((((hw14.setCell (p := ⟨B5, 0, none⟩) (by dsimp only; omega) (.int .i64 r)).setCell (p := ⟨B5, 1, none⟩) (by dsimp only; omega) (.int .i64 s)).setCell (p := ⟨B6, 0, none⟩) (by dsimp only; omega) (.int .i64 p)).setCell (p := ⟨B6, 1, none⟩) (by dsimp only; omega) (.int .i64 q))
        clear F5 F6 FF FG
        go_wp2_with fail
        refine Lex.lexQ_normal (fun _ => ⟨E0, E1⟩) ?_
        refine Lex.lex_do rfl ?_
        clear E0 E1
        go_wp2_with fail
        refine Lex.lexQ_normal (fun _ => ⟨HNF.out, HNG.out⟩) ?_
        refine Lex.lex_nil ?_
        go_wp2_with fail
        go_meet
        exact ⟨r, s, p, q, h2, h1, by omega, HN5.out, HN6.out, HNF.out, HNG.out, HNB.out⟩
      | false =>
        have hgt : ¬ 0 < p * s - r * q := by
          have := of_decide_eq_false hbb
          intro h
          have := hs1 h; omega
        clear hs1 hs2 hbb
        go_wp2_with fail
        go_meet
        exact ⟨p, q, r, s, h1, h2, hgt, HT5.out, HT6.out, HF1.out, HG1.out, HB1.out⟩
    case rest =>
      obtain ⟨l1, l2, g1, g2, ok1, ok2, hle, T5, T6, TF, TG, hbw⟩ := hcut
      have hbet := betwM_ok ok1 ok2 hle
      have hmir := betwM_mirror l1 l2 g1 g2 ok1.1 ok2.1 hle
      obtain ⟨y1, y2, hy⟩ : ∃ y1 y2, betwM l1 l2 g1 g2 = (y1, y2) := ⟨_, _, rfl⟩
      rw [hy] at hbet hmir
      have e4 : y1.natAbs ≤ 4611686018427387904 := hbet.ok.2.2.1
      have e5 : g1.natAbs ≤ 4611686018427387904 := ok2.2.2.1
      have e6 : l1.natAbs ≤ 4611686018427387904 := ok1.2.2.1
      have cb1 := between_w (i64_of_FOk ok1).1 (i64_of_FOk ok1).2 (i64_of_FOk ok2).1 (i64_of_FOk ok2).2 (.tuple #[.agg #[.int .i64 y1, .int .i64 y2], .int .i64 0]) (by unfold betwR; rw [if_neg (fun g => g ⟨ok1, ok2⟩), if_neg hle, hy]) (w := w)
      have cb2 := between_w (i64_of_FOk ok2.neg).1 (i64_of_FOk ok2).2 (i64_of_FOk ok1.neg).1 (i64_of_FOk ok1).2 (.tuple #[.agg #[.int .i64 (-y1), .int .i64 y2], .int .i64 0]) (by unfold betwR; rw [if_neg (fun g => g ⟨ok2.neg, ok1.neg⟩), if_neg (by rw [Int.neg_mul, Int.neg_mul]; omega), hmir]) (w := w)
      have cb3 := between_w (i64_of_FOk h1).1 (i64_of_FOk h1).2 (i64_of_FOk h1).1 (i64_of_FOk h1).2 (.tuple #[.agg #[.int .i64 p, .int .i64 q], .int .i64 0]) (by unfold betwR; rw [if_neg (fun g => g ⟨h1, h1⟩), if_neg (by omega), betwM_self h1]) (w := w)
      have cl := lives_w (w := w)
      have u1 : IntKind.i64.wrap (-g1) = -g1 := IntWalk.i64_in _ (by omega)
      have u2 : IntKind.i64.wrap (-l1) = -l1 := IntWalk.i64_in _ (by omega)
      have u3 : IntKind.i64.wrap y1 = y1 := IntWalk.i64_in _ (by omega)
      have G5 := Lib.hid T5
      have G6 := Lib.hid T6
      have GF := Lib.hid TF
      have GG := Lib.hid TG
      have GB := Lib.hid hbw
      clear T5 T6 TF TG hbw hbet hmir hy ok1 ok2 hle e4 e5 e6 h1 h2 HF1 HG1 HB1 HT5 HT6 HK hs1 hs2 hbb HF HG H5 H6 HBC
      have k0_0 := G5.out.cell0
      have k0_1 := G5.out.cell1
      have k1_0 := G6.out.cell0
      have k1_1 := G6.out.cell1
      have k2_0 := GF.out.cell0
      have k2_1 := GF.out.cell1
      have k3_0 := GG.out.cell0
      have k3_1 := GG.out.cell1
      have hb30 := Below.refl wc.heap.size wc
      have hw30 := GB.out
      have cc := cb1 wc hw30
      go_wp2_with fail
      refine cc.mono ?_
      rintro e V31 ⟨v31, rfl, hm31, hn31⟩
      have hb31 := hb30.trans (hn31.mono hb30.size)
      have hw31 := hw30.trans (hn31.mono hw30.size)
      subst hm31
      clear cc hb30 hw30 hn31
      clear k0_0 k0_1 k1_0 k1_1 k2_0 k2_1 k3_0 k3_1
      have k0_0 := (G5.out.below hb31 G5.out.lt).cell0
      have k0_1 := (G5.out.below hb31 G5.out.lt).cell1
      have k1_0 := (G6.out.below hb31 G6.out.lt).cell0
      have k1_1 := (G6.out.below hb31 G6.out.lt).cell1
      have k2_0 := (GF.out.below hb31 GF.out.lt).cell0
      have k2_1 := (GF.out.below hb31 GF.out.lt).cell1
      have k3_0 := (GG.out.below hb31 GG.out.lt).cell0
      have k3_1 := (GG.out.below hb31 GG.out.lt).cell1
      clear k0_0 k0_1 k1_0 k1_1 k2_0 k2_1 k3_0 k3_1
      obtain ⟨C7, hC7⟩ : ∃ C7, C7 = V31.heap.size := ⟨_, rfl⟩
      obtain ⟨U6, hU⟩ : ∃ U, U = V31.alloc (.cells #[.int .i64 y1, .int .i64 y2] 23) := ⟨_, rfl⟩
      have hbU : Below wc.heap.size wc U6 := by rw [hU]; exact hb31.alloc hb31.size _
      have Q0_6 := Lib.hid (G5.out.below hbU G5.out.lt)
      have Q1_6 := Lib.hid (G6.out.below hbU G6.out.lt)
      have Q2_6 := Lib.hid (GF.out.below hbU GF.out.lt)
      have Q3_6 := Lib.hid (GG.out.below hbU GG.out.lt)
      have NC7 := Lib.hid (show Two U6 C7 (.int .i64 y1) (.int .i64 y2) 23 by rw [hU, hC7]; exact Two.newAt _ _ _ _ _ rfl)
      have W6B := Lib.hid (GB.out.trans (hbU.mono GB.out.size))
      clear hb31 hw31 hbU GB G5 G6 GF GG
      go_upto_region 7 with fail
      rw [← hC7, ← hU]
      clear hU hC7
      have k0_0 := Q0_6.out.cell0
      have k0_1 := Q0_6.out.cell1
      have k1_0 := Q1_6.out.cell0
      have k1_1 := Q1_6.out.cell1
      have k2_0 := Q2_6.out.cell0
      have k2_1 := Q2_6.out.cell1
      have k3_0 := Q3_6.out.cell0
      have k3_1 := Q3_6.out.cell1
      have k4_0 := NC7.out.cell0
      have k4_1 := NC7.out.cell1
      have hb32 := Below.refl U6.heap.size U6
      have hw32 := W6B.out
      have cc := cb2 U6 hw32
      go_wp2_with fail
      refine cc.mono ?_
      rintro e V33 ⟨v33, rfl, hm33, hn33⟩
      have hb33 := hb32.trans (hn33.mono hb32.size)
      have hw33 := hw32.trans (hn33.mono hw32.size)
      subst hm33
      clear cc hb32 hw32 hn33
      clear k0_0 k0_1 k1_0 k1_1 k2_0 k2_1 k3_0 k3_1 k4_0 k4_1
      have k0_0 := (Q0_6.out.below hb33 Q0_6.out.lt).cell0
      have k0_1 := (Q0_6.out.below hb33 Q0_6.out.lt).cell1
      have k1_0 := (Q1_6.out.below hb33 Q1_6.out.lt).cell0
      have k1_1 := (Q1_6.out.below hb33 Q1_6.out.lt).cell1
      have k2_0 := (Q2_6.out.below hb33 Q2_6.out.lt).cell0
      have k2_1 := (Q2_6.out.below hb33 Q2_6.out.lt).cell1
      have k3_0 := (Q3_6.out.below hb33 Q3_6.out.lt).cell0
      have k3_1 := (Q3_6.out.below hb33 Q3_6.out.lt).cell1
      have k4_0 := (NC7.out.below hb33 NC7.out.lt).cell0
      have k4_1 := (NC7.out.below hb33 NC7.out.lt).cell1
      clear k0_0 k0_1 k1_0 k1_1 k2_0 k2_1 k3_0 k3_1 k4_0 k4_1
      obtain ⟨C9, hC9⟩ : ∃ C9, C9 = V33.heap.size := ⟨_, rfl⟩
      obtain ⟨U7, hU⟩ : ∃ U, U = V33.alloc (.cells #[.int .i64 (-y1), .int .i64 y2] 23) := ⟨_, rfl⟩
      have hbU : Below U6.heap.size U6 U7 := by rw [hU]; exact hb33.alloc hb33.size _
      have Q0_7 := Lib.hid (Q0_6.out.below hbU Q0_6.out.lt)
      have Q1_7 := Lib.hid (Q1_6.out.below hbU Q1_6.out.lt)
      have Q2_7 := Lib.hid (Q2_6.out.below hbU Q2_6.out.lt)
      have Q3_7 := Lib.hid (Q3_6.out.below hbU Q3_6.out.lt)
      have Q4_7 := Lib.hid (NC7.out.below hbU NC7.out.lt)
      have NC9 := Lib.hid (show Two U7 C9 (.int .i64 (-y1)) (.int .i64 y2) 23 by rw [hU, hC9]; exact Two.newAt _ _ _ _ _ rfl)
      have W7B := Lib.hid (W6B.out.trans (hbU.mono W6B.out.size))
      clear hb33 hw33 hbU W6B Q0_6 Q1_6 Q2_6 Q3_6 NC7
      go_upto_region 8 with fail
      rw [← hC9, ← hU]
      clear hU hC9
      have k0_0 := Q0_7.out.cell0
      have k0_1 := Q0_7.out.cell1
      have k1_0 := Q1_7.out.cell0
      have k1_1 := Q1_7.out.cell1
      have k2_0 := Q2_7.out.cell0
      have k2_1 := Q2_7.out.cell1
      have k3_0 := Q3_7.out.cell0
      have k3_1 := Q3_7.out.cell1
      have k4_0 := Q4_7.out.cell0
      have k4_1 := Q4_7.out.cell1
      have k5_0 := NC9.out.cell0
      have k5_1 := NC9.out.cell1
      have hb34 := Below.refl U7.heap.size U7
      have hw34 := W7B.out
      have cc := cb3 U7 hw34
      go_wp2_with fail
      refine cc.mono ?_
      rintro e V35 ⟨v35, rfl, hm35, hn35⟩
      have hb35 := hb34.trans (hn35.mono hb34.size)
      have hw35 := hw34.trans (hn35.mono hw34.size)
      subst hm35
      clear cc hb34 hw34 hn35
      clear k0_0 k0_1 k1_0 k1_1 k2_0 k2_1 k3_0 k3_1 k4_0 k4_1 k5_0 k5_1
      have k0_0 := (Q0_7.out.below hb35 Q0_7.out.lt).cell0
      have k0_1 := (Q0_7.out.below hb35 Q0_7.out.lt).cell1
      have k1_0 := (Q1_7.out.below hb35 Q1_7.out.lt).cell0
      have k1_1 := (Q1_7.out.below hb35 Q1_7.out.lt).cell1
      have k2_0 := (Q2_7.out.below hb35 Q2_7.out.lt).cell0
      have k2_1 := (Q2_7.out.below hb35 Q2_7.out.lt).cell1
      have k3_0 := (Q3_7.out.below hb35 Q3_7.out.lt).cell0
      have k3_1 := (Q3_7.out.below hb35 Q3_7.out.lt).cell1
      have k4_0 := (Q4_7.out.below hb35 Q4_7.out.lt).cell0
      have k4_1 := (Q4_7.out.below hb35 Q4_7.out.lt).cell1
      have k5_0 := (NC9.out.below hb35 NC9.out.lt).cell0
      have k5_1 := (NC9.out.below hb35 NC9.out.lt).cell1
      clear k0_0 k0_1 k1_0 k1_1 k2_0 k2_1 k3_0 k3_1 k4_0 k4_1 k5_0 k5_1
      obtain ⟨C11, hC11⟩ : ∃ C11, C11 = V35.heap.size := ⟨_, rfl⟩
      obtain ⟨U8, hU⟩ : ∃ U, U = V35.alloc (.cells #[.int .i64 p, .int .i64 q] 23) := ⟨_, rfl⟩
      have hbU : Below U7.heap.size U7 U8 := by rw [hU]; exact hb35.alloc hb35.size _
      have Q0_8 := Lib.hid (Q0_7.out.below hbU Q0_7.out.lt)
      have Q1_8 := Lib.hid (Q1_7.out.below hbU Q1_7.out.lt)
      have Q2_8 := Lib.hid (Q2_7.out.below hbU Q2_7.out.lt)
      have Q3_8 := Lib.hid (Q3_7.out.below hbU Q3_7.out.lt)
      have Q4_8 := Lib.hid (Q4_7.out.below hbU Q4_7.out.lt)
      have Q5_8 := Lib.hid (NC9.out.below hbU NC9.out.lt)
      have NC11 := Lib.hid (show Two U8 C11 (.int .i64 p) (.int .i64 q) 23 by rw [hU, hC11]; exact Two.newAt _ _ _ _ _ rfl)
      have W8B := Lib.hid (W7B.out.trans (hbU.mono W7B.out.size))
      clear hb35 hw35 hbU W7B Q0_7 Q1_7 Q2_7 Q3_7 Q4_7 NC9
      go_upto_region 9 with fail
      rw [← hC11, ← hU]
      clear hU hC11
      have k0_0 := Q2_8.out.cell0
      have k0_1 := Q2_8.out.cell1
      have k1_0 := Q4_8.out.cell0
      have k1_1 := Q4_8.out.cell1
      have k2_0 := Q5_8.out.cell0
      have k2_1 := Q5_8.out.cell1
      have k3_0 := NC11.out.cell0
      have k3_1 := NC11.out.cell1
      have hb36 := Below.refl U8.heap.size U8
      have hw36 := W8B.out
      have cc := cl U8 hw36
      go_wp2_with fail
      refine cc.mono ?_
      rintro e V37 ⟨v37, rfl, hm37, hn37⟩
      have hb37 := hb36.trans (hn37.mono hb36.size)
      have hw37 := hw36.trans (hn37.mono hw36.size)
      subst hm37
      clear cc hb36 hw36 hn37
      clear k0_0 k0_1 k1_0 k1_1 k2_0 k2_1 k3_0 k3_1
      have k0_0 := (Q2_8.out.below hb37 Q2_8.out.lt).cell0
      have k0_1 := (Q2_8.out.below hb37 Q2_8.out.lt).cell1
      have k1_0 := (Q4_8.out.below hb37 Q4_8.out.lt).cell0
      have k1_1 := (Q4_8.out.below hb37 Q4_8.out.lt).cell1
      have k2_0 := (Q5_8.out.below hb37 Q5_8.out.lt).cell0
      have k2_1 := (Q5_8.out.below hb37 Q5_8.out.lt).cell1
      have k3_0 := (NC11.out.below hb37 NC11.out.lt).cell0
      have k3_1 := (NC11.out.below hb37 NC11.out.lt).cell1
      have HE := Lib.hid hw37
      clear hb37 hw37
      go_wp2
      go_ret
      exact ⟨rfl, HE.out⟩

theorem gearMirrors_any (p q r s : Int) (w : World) : Calls Try.prog 5 #[.agg #[.int .i64 p, .int .i64 q], .agg #[.int .i64 r, .int .i64 s]] w (RetV (.bool true) w) := by
  by_cases h1 : FOk (p, q)
  · by_cases h2 : FOk (r, s)
    · exact mirrors_c p q r s w h1 h2
    · exact mirrors_b p q r s w h1 h2
  · exact mirrors_a p q r s w h1
end Go.Proofs.Ytklngjjokbhfpaa
