/- wide's Rat.Sign, Sub, Abs; ref's SubQ, AbsQ, Off (printed by gened.py). -/
import Derived.Test.YtklngjjokbhfpaaGreatPkDh
namespace Go.Proofs.YtklngjjokbhfpaaGreat
open Go.RowKit

set_option maxRecDepth 100000 in
set_option maxHeartbeats 1600000 in
theorem qsign_any {w : World} {u : Value} {p q : Int} {N : Nat} (hu : IsQ w u p q N) (hN : N ≤ 200) :
    Calls Tryz.prog 140 #[u] w (RetV (.int .i64 (sgn p)) w) := by
  obtain ⟨pa0, A0, n0, c0, pb0, B0, m0, d0, rfl, hp, hq⟩ := hu.open2
  have ca : ∀ W (_ : Below w.heap.size w W), Calls Tryz.prog 155 #[.agg #[.bool pa0.1, .slice A0 n0 c0]] W (RetW (.int .i64 (sgn p)) W) := fun W hb => (sign_any _ _ _ W (hp.below hb) (by omega)).mono fun e w' h => RetW.of h
  clear hu hp hq
  obtain ⟨W3, hW3⟩ : ∃ W3, W3 = (w.alloc (.cells #[.bool pa0.1, .slice A0 n0 c0, .bool pb0.1, .slice B0 m0 d0] 98)) := ⟨_, rfl⟩
  have hB : Below w.heap.size w W3 := by rw [hW3]; exact ((Below.refl _ _).alloc (Nat.le_refl _) _)
  have HBW := Lib.hid hB
  have HF := Lib.hid (show Four W3 (w.heap.size) (.bool pa0.1) (.slice A0 n0 c0) (.bool pb0.1) (.slice B0 m0 d0) 98 by rw [hW3]; exact (Four.newAt _ _ _ _ _ _ _ (by simp)))
  clear hB
  go_enter Tryz.func140, Tryz.ntmps140
  go_upto_region 1 with fail
  rw [← hW3]
  clear hW3
  have k0_0 := HF.out.cell0
  have k0_1 := HF.out.cell1
  have k0_2 := HF.out.cell2
  have k0_3 := HF.out.cell3
  have hb0 := Below.refl W3.heap.size W3
  have hw0 := HBW.out
  have cc := ca W3 hw0
  go_wp2_with fail
  refine cc.mono ?_
  rintro e V1 ⟨v1, rfl, hm1, hn1⟩
  have hb1 := hb0.trans (hn1.mono hb0.size)
  have hw1 := hw0.trans (hn1.mono hw0.size)
  subst hm1
  clear cc hb0 hw0 hn1
  clear k0_0 k0_1 k0_2 k0_3
  have k0_0 := (HF.out.below hb1 HF.out.lt).cell0
  have k0_1 := (HF.out.below hb1 HF.out.lt).cell1
  have k0_2 := (HF.out.below hb1 HF.out.lt).cell2
  have k0_3 := (HF.out.below hb1 HF.out.lt).cell3
  clear hb1
  go_wp2
  go_ret
  exact ⟨rfl, hw1⟩

set_option maxRecDepth 100000 in
set_option maxHeartbeats 1600000 in
theorem qsub_any {w : World} {u v : Value} {p q p1 q1 : Int} {N M : Nat} (hu : IsQ w u p q N) (hv : IsQ w v p1 q1 M) (hN : N ≤ 200) (hM : M ≤ 200) :
    Calls Tryz.prog 78 #[u, v] w (RetQ (p * q1 - p1 * q) (q * q1) (N + M + 1) w) := by
  obtain ⟨pa0, A0, n0, c0, pb0, B0, m0, d0, rfl, hp, hq⟩ := hu.open2
  obtain ⟨pa1, A1, n1, c1, pb1, B1, m1, d1, rfl, hp1, hq1⟩ := hv.open2
  have cn : ∀ W (_ : Below w.heap.size w W), Calls Tryz.prog 114 #[.agg #[.bool pa1.1, .slice A1 n1 c1]] W (RetZ (-p1) M W) := fun W hb => neg_any _ _ _ W (hp1.below hb) (by omega)
  have cs : ∀ W (_ : Below w.heap.size w W) (p7 : Bool × Unit) (A7 : Option Addr) (n7 c7 : Nat), IsZ W (.agg #[.bool p7.1, .slice A7 n7 c7]) (-p1) M → Calls Tryz.prog 80 #[.agg #[.bool pa0.1, .slice A0 n0 c0, .bool pb0.1, .slice B0 m0 d0], .agg #[.bool p7.1, .slice A7 n7 c7, .bool pb1.1, .slice B1 m1 d1]] W (RetQ (p * q1 - p1 * q) (q * q1) (N + M + 1) W) := fun W hb p7 A7 n7 c7 h => by
    have := qadd_any (p := p) (q := q) (p1 := -p1) (q1 := q1) (N := N) (M := M) ⟨pa0.1, _, pb0.1, _, rfl, hp.below hb, hq.below hb⟩ ⟨p7.1, _, pb1.1, _, rfl, h, hq1.below hb⟩ hN hM
    rwa [show p * q1 + -p1 * q = p * q1 - p1 * q by rw [Int.neg_mul]; omega] at this
  clear hu hv hp hq hp1 hq1
  obtain ⟨W3, hW3⟩ : ∃ W3, W3 = (((w.alloc (.cells #[.bool pa0.1, .slice A0 n0 c0, .bool pb0.1, .slice B0 m0 d0] 98)).alloc (.cells #[.bool pa1.1, .slice A1 n1 c1, .bool pb1.1, .slice B1 m1 d1] 98)).alloc (.cells #[.bool false, .slice none 0 0, .bool false, .slice none 0 0] 98)) := ⟨_, rfl⟩
  have hB : Below w.heap.size w W3 := by rw [hW3]; exact ((((Below.refl _ _).alloc (Nat.le_refl _) _).alloc (by simp; try omega) _).alloc (by simp; try omega) _)
  have HBW := Lib.hid hB
  have HF := Lib.hid (show Four W3 (w.heap.size) (.bool pa0.1) (.slice A0 n0 c0) (.bool pb0.1) (.slice B0 m0 d0) 98 by rw [hW3]; exact (((((Four.newAt _ _ _ _ _ _ _ (by simp))).alloc _)).alloc _))
  have HG := Lib.hid (show Four W3 (w.heap.size + 1) (.bool pa1.1) (.slice A1 n1 c1) (.bool pb1.1) (.slice B1 m1 d1) 98 by rw [hW3]; exact (((Four.newAt _ _ _ _ _ _ _ (by simp))).alloc _))
  have HR := Lib.hid (show Four W3 (w.heap.size + 1 + 1) (.bool false) (.slice none 0 0) (.bool false) (.slice none 0 0) 98 by rw [hW3]; exact (Four.newAt _ _ _ _ _ _ _ (by simp)))
  clear hB
  go_enter Tryz.func78, Tryz.ntmps78
  go_wp2_with fail
  rw [← hW3]
  clear hW3
  refine Lex.wp_region_lex (fun w' => Four w' w.heap.size (.bool pa0.1) (.slice A0 n0 c0) (.bool pb0.1) (.slice B0 m0 d0) 98 ∧ Four w' (w.heap.size + 1) (.bool pa1.1) (.slice A1 n1 c1) (.bool pb1.1) (.slice B1 m1 d1) 98) (fun j => j != 8)
    [(0, true), (1, true), (2, true), (4, true), (5, true), (3, false), (6, false), (7, false), (8, false)]
    (by kernel_rfl) (by kernel_rfl) (by kernel_rfl) (by kernel_rfl) ⟨HF.out, HG.out⟩ ?_
  iterate 5 (refine Lex.lex_take (v := ?_) rfl rfl (by rfl) (fun _ hS => ?_) ?_; rotate_left 1; (focus (have g0_0 := hS.1.cell0; have g0_1 := hS.1.cell1; have g0_2 := hS.1.cell2; have g0_3 := hS.1.cell3; have g1_0 := hS.2.cell0; have g1_1 := hS.2.cell1; have g1_2 := hS.2.cell2; have g1_3 := hS.2.cell3; clear hS; go_simp; with_reducible rfl)); simp only [List.setIfInBounds_toArray, List.set_cons_zero, List.set_cons_succ])
  refine Lex.lex_do rfl ?_
  have hb0 : Below W3.heap.size W3 W3.drew := ⟨rfl, rfl, rfl, Nat.le_refl _, fun _ _ => rfl⟩
  have hw0 : Below w.heap.size w W3.drew := ⟨HBW.out.os, HBW.out.tape, HBW.out.output, HBW.out.size, HBW.out.block⟩
  generalize hV0 : W3.drew = V0 at *
  clear hV0
  have cc := cn V0 hw0
  go_wp2_with fail
  refine cc.mono ?_
  rintro e V1 ⟨v1, rfl, hm1, hn1⟩
  have hb1 := hb0.trans (hn1.mono hb0.size)
  have hw1 := hw0.trans (hn1.mono hw0.size)
  clear cc hb0 hw0 hn1
  go_wp2_with fail
  have E0 := HF.out.below hb1 HF.out.lt
  have E1 := HG.out.below hb1 HG.out.lt
  refine Lex.lexQ_normal (fun _ => ⟨E0, E1⟩) ?_
  refine Lex.lex_do rfl ?_
  clear E0 E1
  obtain ⟨p7, A7, n7, c7, rfl⟩ := hm1.agg'
  go_wp2_with fail
  have E0 := HF.out.below hb1 HF.out.lt
  have E1 := HG.out.below hb1 HG.out.lt
  refine Lex.lexQ_normal (fun _ => ⟨E0, E1⟩) ?_
  refine Lex.lex_do rfl ?_
  clear E0 E1
  have cc := cs V1 hw1 _ _ _ _ hm1
  go_wp2_with fail
  refine cc.mono ?_
  rintro e V2 ⟨v2, rfl, hm2, hn2⟩
  have hb2 := hb1.trans (hn2.mono hb1.size)
  have hw2 := hw1.trans (hn2.mono hw1.size)
  clear hm1
  clear cc hb1 hw1 hn2
  go_wp2_with fail
  have E0 := HF.out.below hb2 HF.out.lt
  have E1 := HG.out.below hb2 HG.out.lt
  refine Lex.lexQ_normal (fun _ => ⟨E0, E1⟩) ?_
  refine Lex.lex_do rfl ?_
  clear E0 E1
  obtain ⟨p5, A5, n5, c5, p6, A6, n6, c6, rfl, hp5, hq6⟩ := hm2.open2
  have HR4 := HR.out.below hb2 HR.out.lt
  have r0 := HR4.cell0
  have r1 := HR4.cell1
  have r2 := HR4.cell2
  have r3 := HR4.cell3
  have g0 := HR4.free 0
  have g1 := HR4.free 1
  have g2 := HR4.free 2
  have g3 := HR4.free 3
  have HP := Lib.hid (hp5.storedF (u0 := .bool p5.1) (u1 := .slice A5 n5 c5) (u2 := .bool p6.1) (u3 := .slice A6 n6 c6) HR4)
  have HQ := Lib.hid (hq6.storedF (u0 := .bool p5.1) (u1 := .slice A5 n5 c5) (u2 := .bool p6.1) (u3 := .slice A6 n6 c6) HR4)
  have HBE := Lib.hid hw2
  clear HR4 hp5 hq6 hw2 hb2
  go_wp2_with fail
  refine Lex.lexQ_normal (fun h => absurd h (by decide)) ?_
  refine Lex.lex_nil ?_
  go_wp2
  refine bodyPost_ret (v := .agg #[.bool p5.1, .slice A5 n5 c5, .bool p6.1, .slice A6 n6 c6]) (by simp [results, Tryz.results78, go_sem, r0, r1, r2, r3]) rfl ⟨_, rfl, ⟨p5.1, _, p6.1, _, rfl, HP.out, HQ.out⟩, ?_⟩
  exact (((HBE.out.setCell (by simp; try omega) _).setCell (by simp; try omega) _).setCell (by simp; try omega) _).setCell (by simp; try omega) _

set_option maxRecDepth 100000 in
set_option maxHeartbeats 1600000 in
theorem qabs_neg {w : World} {u : Value} {p q : Int} {N : Nat} (hu : IsQ w u p q N) (hN : N ≤ 200) (h : p < 0) :
    Calls Tryz.prog 112 #[u] w (RetQ (p.natAbs : Int) q N w) := by
  obtain ⟨pa0, A0, n0, c0, pb0, B0, m0, d0, rfl, hp, hq⟩ := hu.open2
  have hsg : sgn p = -1 := by unfold sgn; rw [if_pos h]
  have cs : ∀ W (_ : Below w.heap.size w W), Calls Tryz.prog 140 #[.agg #[.bool pa0.1, .slice A0 n0 c0, .bool pb0.1, .slice B0 m0 d0]] W (RetW (.int .i64 (sgn p)) W) := fun W hb => (qsign_any (p := p) (q := q) ⟨pa0.1, _, pb0.1, _, rfl, hp.below hb, hq.below hb⟩ hN).mono fun e w' h => RetW.of h
  rw [hsg] at cs
  have cn : ∀ W (_ : Below w.heap.size w W), Calls Tryz.prog 114 #[.agg #[.bool pa0.1, .slice A0 n0 c0]] W (RetZ (p.natAbs : Int) N W) := fun W hb => by
    have := neg_any _ _ _ W (hp.below hb) (by omega)
    rwa [show -p = (p.natAbs : Int) by omega] at this
  have hq0 := Lib.hid hq
  clear hu hp hq hsg h
  obtain ⟨W3, hW3⟩ : ∃ W3, W3 = ((w.alloc (.cells #[.bool pa0.1, .slice A0 n0 c0, .bool pb0.1, .slice B0 m0 d0] 98)).alloc (.cells #[.bool false, .slice none 0 0, .bool false, .slice none 0 0] 98)) := ⟨_, rfl⟩
  have hB : Below w.heap.size w W3 := by rw [hW3]; exact (((Below.refl _ _).alloc (Nat.le_refl _) _).alloc (by simp; try omega) _)
  have HBW := Lib.hid hB
  have HF := Lib.hid (show Four W3 (w.heap.size) (.bool pa0.1) (.slice A0 n0 c0) (.bool pb0.1) (.slice B0 m0 d0) 98 by rw [hW3]; exact (((Four.newAt _ _ _ _ _ _ _ (by simp))).alloc _))
  have HR := Lib.hid (show Four W3 (w.heap.size + 1) (.bool false) (.slice none 0 0) (.bool false) (.slice none 0 0) 98 by rw [hW3]; exact (Four.newAt _ _ _ _ _ _ _ (by simp)))
  clear hB
  go_enter Tryz.func112, Tryz.ntmps112
  go_upto_region 1 with fail
  rw [← hW3]
  clear hW3
  have k0_0 := HF.out.cell0
  have k0_1 := HF.out.cell1
  have k0_2 := HF.out.cell2
  have k0_3 := HF.out.cell3
  have hb0 := Below.refl W3.heap.size W3
  have hw0 := HBW.out
  have cc := cs W3 hw0
  go_wp2_with fail
  refine cc.mono ?_
  rintro e V1 ⟨v1, rfl, hm1, hn1⟩
  have hb1 := hb0.trans (hn1.mono hb0.size)
  have hw1 := hw0.trans (hn1.mono hw0.size)
  subst hm1
  clear cc hb0 hw0 hn1
  clear k0_0 k0_1 k0_2 k0_3
  have k0_0 := (HF.out.below hb1 HF.out.lt).cell0
  have k0_1 := (HF.out.below hb1 HF.out.lt).cell1
  have k0_2 := (HF.out.below hb1 HF.out.lt).cell2
  have k0_3 := (HF.out.below hb1 HF.out.lt).cell3
  have XF := Lib.hid (HF.out.below hb1 HF.out.lt)
  have HR0 := Lib.hid (HR.out.below hb1 HR.out.lt)
  have XW := Lib.hid hw1
  clear hb1 hw1 HF HR HBW cs k0_0 k0_1 k0_2 k0_3
  have HR := HR0
  clear HR0
  go_upto_region 2 with fail
  refine Lex.wp_region_lex (fun w' => Four w' w.heap.size (.bool pa0.1) (.slice A0 n0 c0) (.bool pb0.1) (.slice B0 m0 d0) 98) (fun j => j != 6)
    [(0, true), (1, true), (3, true), (4, true), (2, false), (5, false), (6, false)]
    (by kernel_rfl) (by kernel_rfl) (by kernel_rfl) (by kernel_rfl) XF.out ?_
  iterate 4 (refine Lex.lex_take (v := ?_) rfl rfl (by rfl) (fun _ hS => ?_) ?_; rotate_left 1; (focus (have g0_0 := hS.cell0; have g0_1 := hS.cell1; have g0_2 := hS.cell2; have g0_3 := hS.cell3; clear hS; go_simp; with_reducible rfl)); simp only [List.setIfInBounds_toArray, List.set_cons_zero, List.set_cons_succ])
  refine Lex.lex_do rfl ?_
  have hb0 : Below V1.heap.size V1 V1.drew := ⟨rfl, rfl, rfl, Nat.le_refl _, fun _ _ => rfl⟩
  have hw0 : Below w.heap.size w V1.drew := ⟨XW.out.os, XW.out.tape, XW.out.output, XW.out.size, XW.out.block⟩
  generalize hV0 : V1.drew = V0 at *
  clear hV0
  have cc := cn V0 hw0
  go_wp2_with fail
  refine cc.mono ?_
  rintro e V1 ⟨v1, rfl, hm1, hn1⟩
  have hb1 := hb0.trans (hn1.mono hb0.size)
  have hw1 := hw0.trans (hn1.mono hw0.size)
  clear cc hb0 hw0 hn1
  go_wp2_with fail
  have E0 := XF.out.below hb1 XF.out.lt
  refine Lex.lexQ_normal (fun _ => E0) ?_
  refine Lex.lex_do rfl ?_
  clear E0
  obtain ⟨p5, A5, n5, c5, rfl⟩ := hm1.agg'
  obtain ⟨p6, hp6⟩ : ∃ p6, p6 = pb0 := ⟨_, rfl⟩
  obtain ⟨A6, hA6⟩ : ∃ A6, A6 = B0 := ⟨_, rfl⟩
  obtain ⟨n6, hn6⟩ : ∃ n6, n6 = m0 := ⟨_, rfl⟩
  obtain ⟨c6, hc6⟩ : ∃ c6, c6 = d0 := ⟨_, rfl⟩
  have hq6 : IsZ V1 (.agg #[.bool p6.1, .slice A6 n6 c6]) q N := by rw [hp6, hA6, hn6, hc6]; exact hq0.out.below hw1
  subst hp6 hA6 hn6 hc6
  go_wp2_with fail
  have E0 := XF.out.below hb1 XF.out.lt
  refine Lex.lexQ_normal (fun _ => E0) ?_
  refine Lex.lex_do rfl ?_
  clear E0
  have HR4 := HR.out.below hb1 HR.out.lt
  have r0 := HR4.cell0
  have r1 := HR4.cell1
  have r2 := HR4.cell2
  have r3 := HR4.cell3
  have g0 := HR4.free 0
  have g1 := HR4.free 1
  have g2 := HR4.free 2
  have g3 := HR4.free 3
  have HP := Lib.hid (hm1.storedF (u0 := .bool p5.1) (u1 := .slice A5 n5 c5) (u2 := .bool p6.1) (u3 := .slice A6 n6 c6) HR4)
  have HQ := Lib.hid (hq6.storedF (u0 := .bool p5.1) (u1 := .slice A5 n5 c5) (u2 := .bool p6.1) (u3 := .slice A6 n6 c6) HR4)
  have HBE := Lib.hid hw1
  clear HR4 hm1 hq6 hw1 hb1
  go_wp2_with fail
  refine Lex.lexQ_normal (fun h => absurd h (by decide)) ?_
  refine Lex.lex_nil ?_
  go_wp2
  refine bodyPost_ret (v := .agg #[.bool p5.1, .slice A5 n5 c5, .bool p6.1, .slice A6 n6 c6]) (by simp [results, Tryz.results112, go_sem, r0, r1, r2, r3]) rfl ⟨_, rfl, ⟨p5.1, _, p6.1, _, rfl, HP.out, HQ.out⟩, ?_⟩
  exact (((HBE.out.setCell (by simp; try omega) _).setCell (by simp; try omega) _).setCell (by simp; try omega) _).setCell (by simp; try omega) _

set_option maxRecDepth 100000 in
set_option maxHeartbeats 1600000 in
theorem qabs_pos {w : World} {u : Value} {p q : Int} {N : Nat} (hu : IsQ w u p q N) (hN : N ≤ 200) (h : ¬ p < 0) :
    Calls Tryz.prog 112 #[u] w (RetQ (p.natAbs : Int) q N w) := by
  obtain ⟨pa0, A0, n0, c0, pb0, B0, m0, d0, rfl, hp, hq⟩ := hu.open2
  have hsg : sgn p ≥ 0 := by unfold sgn; rw [if_neg h]; split <;> omega
  have cs : ∀ W (_ : Below w.heap.size w W), Calls Tryz.prog 140 #[.agg #[.bool pa0.1, .slice A0 n0 c0, .bool pb0.1, .slice B0 m0 d0]] W (RetW (.int .i64 (sgn p)) W) := fun W hb => (qsign_any (p := p) (q := q) ⟨pa0.1, _, pb0.1, _, rfl, hp.below hb, hq.below hb⟩ hN).mono fun e w' h => RetW.of h
  have hp0 := Lib.hid hp
  have hq0 := Lib.hid hq
  have habs := Lib.hid (show (p.natAbs : Int) = p by omega)
  generalize sgn p = sg at *
  have htest : ¬ sg < 0 := by omega
  clear hu hp hq hsg h
  obtain ⟨W3, hW3⟩ : ∃ W3, W3 = ((w.alloc (.cells #[.bool pa0.1, .slice A0 n0 c0, .bool pb0.1, .slice B0 m0 d0] 98)).alloc (.cells #[.bool false, .slice none 0 0, .bool false, .slice none 0 0] 98)) := ⟨_, rfl⟩
  have hB : Below w.heap.size w W3 := by rw [hW3]; exact (((Below.refl _ _).alloc (Nat.le_refl _) _).alloc (by simp; try omega) _)
  have HBW := Lib.hid hB
  have HF := Lib.hid (show Four W3 (w.heap.size) (.bool pa0.1) (.slice A0 n0 c0) (.bool pb0.1) (.slice B0 m0 d0) 98 by rw [hW3]; exact (((Four.newAt _ _ _ _ _ _ _ (by simp))).alloc _))
  have HR := Lib.hid (show Four W3 (w.heap.size + 1) (.bool false) (.slice none 0 0) (.bool false) (.slice none 0 0) 98 by rw [hW3]; exact (Four.newAt _ _ _ _ _ _ _ (by simp)))
  clear hB
  go_enter Tryz.func112, Tryz.ntmps112
  go_upto_region 1 with fail
  rw [← hW3]
  clear hW3
  have k0_0 := HF.out.cell0
  have k0_1 := HF.out.cell1
  have k0_2 := HF.out.cell2
  have k0_3 := HF.out.cell3
  have hb0 := Below.refl W3.heap.size W3
  have hw0 := HBW.out
  have cc := cs W3 hw0
  go_wp2_with fail
  refine cc.mono ?_
  rintro e V1 ⟨v1, rfl, hm1, hn1⟩
  have hb1 := hb0.trans (hn1.mono hb0.size)
  have hw1 := hw0.trans (hn1.mono hw0.size)
  subst hm1
  clear cc hb0 hw0 hn1
  clear k0_0 k0_1 k0_2 k0_3
  have k0_0 := (HF.out.below hb1 HF.out.lt).cell0
  have k0_1 := (HF.out.below hb1 HF.out.lt).cell1
  have k0_2 := (HF.out.below hb1 HF.out.lt).cell2
  have k0_3 := (HF.out.below hb1 HF.out.lt).cell3
  have r0 := (HR.out.below hb1 HR.out.lt).cell0
  have r1 := (HR.out.below hb1 HR.out.lt).cell1
  have r2 := (HR.out.below hb1 HR.out.lt).cell2
  have r3 := (HR.out.below hb1 HR.out.lt).cell3
  have g0 := (HR.out.below hb1 HR.out.lt).free 0
  have g1 := (HR.out.below hb1 HR.out.lt).free 1
  have g2 := (HR.out.below hb1 HR.out.lt).free 2
  have g3 := (HR.out.below hb1 HR.out.lt).free 3
  have HR4 := HR.out.below hb1 HR.out.lt
  have HP := Lib.hid ((hp0.out.below hw1).storedF (u0 := .bool pa0.1) (u1 := .slice A0 n0 c0) (u2 := .bool pb0.1) (u3 := .slice B0 m0 d0) HR4)
  have HQ := Lib.hid ((hq0.out.below hw1).storedF (u0 := .bool pa0.1) (u1 := .slice A0 n0 c0) (u2 := .bool pb0.1) (u3 := .slice B0 m0 d0) HR4)
  have HBE := Lib.hid hw1
  clear HR4 hb1 hw1 cs
  go_wp2
  rw [habs.out]
  refine bodyPost_ret (v := .agg #[.bool pa0.1, .slice A0 n0 c0, .bool pb0.1, .slice B0 m0 d0]) (by simp [results, Tryz.results112, go_sem, r0, r1, r2, r3]) rfl ⟨_, rfl, ⟨pa0.1, _, pb0.1, _, rfl, HP.out, HQ.out⟩, ?_⟩
  exact (((HBE.out.setCell (by simp; try omega) _).setCell (by simp; try omega) _).setCell (by simp; try omega) _).setCell (by simp; try omega) _

theorem qabs_any {w : World} {u : Value} {p q : Int} {N : Nat} (hu : IsQ w u p q N) (hN : N ≤ 200) : Calls Tryz.prog 112 #[u] w (RetQ (p.natAbs : Int) q N w) := by
  by_cases h : p < 0
  · exact qabs_neg hu hN h
  · exact qabs_pos hu hN h

set_option maxRecDepth 100000 in
set_option maxHeartbeats 1600000 in
theorem rsubq_any {w : World} {u v : Value} {p q p1 q1 : Int} {N M : Nat} (hu : IsRQ w u p q N) (hv : IsRQ w v p1 q1 M) (hN : N ≤ 200) (hM : M ≤ 200) :
    Calls Tryz.prog 40 #[u, v] w (RetRQ (p * q1 - p1 * q) (q * q1) (N + M + 2) w) := by
  obtain ⟨pa0, A0, n0, c0, pb0, B0, m0, d0, rfl, hp, hq⟩ := hu.open'
  obtain ⟨pa1, A1, n1, c1, pb1, B1, m1, d1, rfl, hp1, hq1⟩ := hv.open'
  have ca : ∀ W, Below w.heap.size w W → Calls Tryz.prog 65 #[.agg #[.bool pa0.1, .slice A0 n0 c0], .agg #[.bool pb1.1, .slice B1 m1 d1]] W (RetR (p * q1) (N + M + 1) W) := fun W hb => rmul_any (hp.below hb) (hq1.below hb) (by omega) (by omega)
  have cb : ∀ W, Below w.heap.size w W → Calls Tryz.prog 65 #[.agg #[.bool pa1.1, .slice A1 n1 c1], .agg #[.bool pb0.1, .slice B0 m0 d0]] W (RetR (p1 * q) (M + N + 1) W) := fun W hb => rmul_any (hp1.below hb) (hq.below hb) (by omega) (by omega)
  have cs : ∀ W (_ : Below w.heap.size w W) u v, IsR W u (p * q1) (N + M + 1) → IsR W v (p1 * q) (M + N + 1) → Calls Tryz.prog 84 #[u, v] W (RetR (p * q1 - p1 * q) (N + M + 2) W) := fun W _ u v h1 h2 => (rsub_any h1 h2 (by omega) (by omega)).mono fun e w' ⟨v, g1, g2, g3⟩ => ⟨v, g1, g2.more (by omega), g3⟩
  have cc : ∀ W, Below w.heap.size w W → Calls Tryz.prog 65 #[.agg #[.bool pb0.1, .slice B0 m0 d0], .agg #[.bool pb1.1, .slice B1 m1 d1]] W (RetR (q * q1) (N + M + 2) W) := fun W hb => (rmul_any (hq.below hb) (hq1.below hb) (by omega) (by omega)).mono fun e w' ⟨v, g1, g2, g3⟩ => ⟨v, g1, g2.more (by omega), g3⟩
  clear hu hv hp hq hp1 hq1
  obtain ⟨W3, hW3⟩ : ∃ W3, W3 = (((w.alloc (.cells #[.bool pa0.1, .slice A0 n0 c0, .bool pb0.1, .slice B0 m0 d0] 40)).alloc (.cells #[.bool pa1.1, .slice A1 n1 c1, .bool pb1.1, .slice B1 m1 d1] 40)).alloc (.cells #[.bool false, .slice none 0 0, .bool false, .slice none 0 0] 40)) := ⟨_, rfl⟩
  have hB : Below w.heap.size w W3 := by rw [hW3]; exact ((((Below.refl _ _).alloc (Nat.le_refl _) _).alloc (by simp; try omega) _).alloc (by simp; try omega) _)
  have HBW := Lib.hid hB
  have HF := Lib.hid (show Four W3 (w.heap.size) (.bool pa0.1) (.slice A0 n0 c0) (.bool pb0.1) (.slice B0 m0 d0) 40 by rw [hW3]; exact (((((Four.newAt _ _ _ _ _ _ _ (by simp))).alloc _)).alloc _))
  have HG := Lib.hid (show Four W3 (w.heap.size + 1) (.bool pa1.1) (.slice A1 n1 c1) (.bool pb1.1) (.slice B1 m1 d1) 40 by rw [hW3]; exact (((Four.newAt _ _ _ _ _ _ _ (by simp))).alloc _))
  have HR := Lib.hid (show Four W3 (w.heap.size + 1 + 1) (.bool false) (.slice none 0 0) (.bool false) (.slice none 0 0) 40 by rw [hW3]; exact (Four.newAt _ _ _ _ _ _ _ (by simp)))
  clear hB
  go_enter Tryz.func40, Tryz.ntmps40
  go_wp2_with fail
  rw [← hW3]
  clear hW3
  refine Lex.wp_region_lex (fun w' => Four w' w.heap.size (.bool pa0.1) (.slice A0 n0 c0) (.bool pb0.1) (.slice B0 m0 d0) 40 ∧ Four w' (w.heap.size + 1) (.bool pa1.1) (.slice A1 n1 c1) (.bool pb1.1) (.slice B1 m1 d1) 40) (fun j => j != 17)
    [(0, true), (1, true), (2, true), (3, true), (5, true), (6, true), (7, true), (8, true), (11, true), (12, true), (13, true), (14, true), (4, false), (9, false), (10, false), (15, false), (16, false), (17, false)]
    (by kernel_rfl) (by kernel_rfl) (by kernel_rfl) (by kernel_rfl) ⟨HF.out, HG.out⟩ ?_
  iterate 12 (refine Lex.lex_take (v := ?_) rfl rfl (by rfl) (fun _ hS => ?_) ?_; rotate_left 1; (focus (have g0_0 := hS.1.cell0; have g0_1 := hS.1.cell1; have g0_2 := hS.1.cell2; have g0_3 := hS.1.cell3; have g1_0 := hS.2.cell0; have g1_1 := hS.2.cell1; have g1_2 := hS.2.cell2; have g1_3 := hS.2.cell3; clear hS; go_simp; with_reducible rfl)); simp only [List.setIfInBounds_toArray, List.set_cons_zero, List.set_cons_succ])
  refine Lex.lex_do rfl ?_
  have hb0 : Below W3.heap.size W3 W3.drew := ⟨rfl, rfl, rfl, Nat.le_refl _, fun _ _ => rfl⟩
  have hw0 : Below w.heap.size w W3.drew := ⟨HBW.out.os, HBW.out.tape, HBW.out.output, HBW.out.size, HBW.out.block⟩
  generalize hV0 : W3.drew = V0 at *
  clear hV0
  have cc := ca V0 hw0
  go_wp2_with fail
  refine cc.mono ?_
  rintro e V1 ⟨v1, rfl, hm1, hn1⟩
  have hb1 := hb0.trans (hn1.mono hb0.size)
  have hw1 := hw0.trans (hn1.mono hw0.size)
  clear cc hb0 hw0 hn1
  go_wp2_with fail
  have E0 := HF.out.below hb1 HF.out.lt
  have E1 := HG.out.below hb1 HG.out.lt
  refine Lex.lexQ_normal (fun _ => ⟨E0, E1⟩) ?_
  refine Lex.lex_do rfl ?_
  clear E0 E1
  have cc := cb V1 hw1
  go_wp2_with fail
  refine cc.mono ?_
  rintro e V2 ⟨v2, rfl, hm2, hn2⟩
  have hb2 := hb1.trans (hn2.mono hb1.size)
  have hw2 := hw1.trans (hn2.mono hw1.size)
  have hm1 := hm1.below hn2
  clear cc hb1 hw1 hn2
  go_wp2_with fail
  have E0 := HF.out.below hb2 HF.out.lt
  have E1 := HG.out.below hb2 HG.out.lt
  refine Lex.lexQ_normal (fun _ => ⟨E0, E1⟩) ?_
  refine Lex.lex_do rfl ?_
  clear E0 E1
  have cc := cs V2 hw2 _ _ hm1 hm2
  go_wp2_with fail
  refine cc.mono ?_
  rintro e V3 ⟨v3, rfl, hm3, hn3⟩
  have hb3 := hb2.trans (hn3.mono hb2.size)
  have hw3 := hw2.trans (hn3.mono hw2.size)
  clear hm1 hm2
  clear cc hb2 hw2 hn3
  go_wp2_with fail
  have E0 := HF.out.below hb3 HF.out.lt
  have E1 := HG.out.below hb3 HG.out.lt
  refine Lex.lexQ_normal (fun _ => ⟨E0, E1⟩) ?_
  refine Lex.lex_do rfl ?_
  clear E0 E1
  have cc := cc V3 hw3
  go_wp2_with fail
  refine cc.mono ?_
  rintro e V4 ⟨v4, rfl, hm4, hn4⟩
  have hb4 := hb3.trans (hn4.mono hb3.size)
  have hw4 := hw3.trans (hn4.mono hw3.size)
  have hm3 := hm3.below hn4
  clear cc hb3 hw3 hn4
  go_wp2_with fail
  have E0 := HF.out.below hb4 HF.out.lt
  have E1 := HG.out.below hb4 HG.out.lt
  refine Lex.lexQ_normal (fun _ => ⟨E0, E1⟩) ?_
  refine Lex.lex_do rfl ?_
  clear E0 E1
  obtain ⟨p5, A5, n5, c5, rfl⟩ := hm3.agg'
  obtain ⟨p6, A6, n6, c6, rfl⟩ := hm4.agg'
  go_wp2_with fail
  have E0 := HF.out.below hb4 HF.out.lt
  have E1 := HG.out.below hb4 HG.out.lt
  refine Lex.lexQ_normal (fun _ => ⟨E0, E1⟩) ?_
  refine Lex.lex_do rfl ?_
  clear E0 E1
  have HR4 := HR.out.below hb4 HR.out.lt
  have r0 := HR4.cell0
  have r1 := HR4.cell1
  have r2 := HR4.cell2
  have r3 := HR4.cell3
  have g0 := HR4.free 0
  have g1 := HR4.free 1
  have g2 := HR4.free 2
  have g3 := HR4.free 3
  have HP := Lib.hid (hm3.storedQ (u0 := .bool p5.1) (u1 := .slice A5 n5 c5) (u2 := .bool p6.1) (u3 := .slice A6 n6 c6) HR4)
  have HQ := Lib.hid (hm4.storedQ (u0 := .bool p5.1) (u1 := .slice A5 n5 c5) (u2 := .bool p6.1) (u3 := .slice A6 n6 c6) HR4)
  have HBE := Lib.hid hw4
  clear HR4 hm3 hm4 hw4 hb4
  go_wp2_with fail
  refine Lex.lexQ_normal (fun h => absurd h (by decide)) ?_
  refine Lex.lex_nil ?_
  go_wp2
  refine bodyPost_ret (v := .agg #[.bool p5.1, .slice A5 n5 c5, .bool p6.1, .slice A6 n6 c6]) (by simp [results, Tryz.results40, go_sem, r0, r1, r2, r3]) rfl ⟨_, rfl, ⟨p5.1, _, p6.1, _, rfl, HP.out, HQ.out⟩, ?_⟩
  exact (((HBE.out.setCell (by simp; try omega) _).setCell (by simp; try omega) _).setCell (by simp; try omega) _).setCell (by simp; try omega) _

set_option maxRecDepth 100000 in
set_option maxHeartbeats 1600000 in
theorem rabsq_any {w : World} {u : Value} {p q : Int} {N : Nat} (hu : IsRQ w u p q N) :
    Calls Tryz.prog 49 #[u] w (RetRQ (p.natAbs : Int) q N w) := by
  obtain ⟨pa0, A0, n0, c0, pb0, B0, m0, d0, rfl, hp, hq⟩ := hu.open'
  have ca : ∀ W, Below w.heap.size w W → Calls Tryz.prog 95 #[.agg #[.bool pa0.1, .slice A0 n0 c0]] W (RetR (p.natAbs : Int) N W) := fun W hb => rabs_any (hp.below hb)
  have hq0 := Lib.hid hq
  clear hu hp hq
  obtain ⟨W3, hW3⟩ : ∃ W3, W3 = ((w.alloc (.cells #[.bool pa0.1, .slice A0 n0 c0, .bool pb0.1, .slice B0 m0 d0] 40)).alloc (.cells #[.bool false, .slice none 0 0, .bool false, .slice none 0 0] 40)) := ⟨_, rfl⟩
  have hB : Below w.heap.size w W3 := by rw [hW3]; exact (((Below.refl _ _).alloc (Nat.le_refl _) _).alloc (by simp; try omega) _)
  have HBW := Lib.hid hB
  have HF := Lib.hid (show Four W3 (w.heap.size) (.bool pa0.1) (.slice A0 n0 c0) (.bool pb0.1) (.slice B0 m0 d0) 40 by rw [hW3]; exact (((Four.newAt _ _ _ _ _ _ _ (by simp))).alloc _))
  have HR := Lib.hid (show Four W3 (w.heap.size + 1) (.bool false) (.slice none 0 0) (.bool false) (.slice none 0 0) 40 by rw [hW3]; exact (Four.newAt _ _ _ _ _ _ _ (by simp)))
  clear hB
  go_enter Tryz.func49, Tryz.ntmps49
  go_wp2_with fail
  rw [← hW3]
  clear hW3
  refine Lex.wp_region_lex (fun w' => Four w' w.heap.size (.bool pa0.1) (.slice A0 n0 c0) (.bool pb0.1) (.slice B0 m0 d0) 40) (fun j => j != 6)
    [(0, true), (1, true), (3, true), (4, true), (2, false), (5, false), (6, false)]
    (by kernel_rfl) (by kernel_rfl) (by kernel_rfl) (by kernel_rfl) HF.out ?_
  iterate 4 (refine Lex.lex_take (v := ?_) rfl rfl (by rfl) (fun _ hS => ?_) ?_; rotate_left 1; (focus (have g0_0 := hS.cell0; have g0_1 := hS.cell1; have g0_2 := hS.cell2; have g0_3 := hS.cell3; clear hS; go_simp; with_reducible rfl)); simp only [List.setIfInBounds_toArray, List.set_cons_zero, List.set_cons_succ])
  refine Lex.lex_do rfl ?_
  have hb0 : Below W3.heap.size W3 W3.drew := ⟨rfl, rfl, rfl, Nat.le_refl _, fun _ _ => rfl⟩
  have hw0 : Below w.heap.size w W3.drew := ⟨HBW.out.os, HBW.out.tape, HBW.out.output, HBW.out.size, HBW.out.block⟩
  generalize hV0 : W3.drew = V0 at *
  clear hV0
  have cc := ca V0 hw0
  go_wp2_with fail
  refine cc.mono ?_
  rintro e V1 ⟨v1, rfl, hm1, hn1⟩
  have hb1 := hb0.trans (hn1.mono hb0.size)
  have hw1 := hw0.trans (hn1.mono hw0.size)
  clear cc hb0 hw0 hn1
  go_wp2_with fail
  have E0 := HF.out.below hb1 HF.out.lt
  refine Lex.lexQ_normal (fun _ => E0) ?_
  refine Lex.lex_do rfl ?_
  clear E0
  obtain ⟨p5, A5, n5, c5, rfl⟩ := hm1.agg'
  have hq6 := hq0.out.below hw1
  go_wp2_with fail
  have E0 := HF.out.below hb1 HF.out.lt
  refine Lex.lexQ_normal (fun _ => E0) ?_
  refine Lex.lex_do rfl ?_
  clear E0
  have HR4 := HR.out.below hb1 HR.out.lt
  have r0 := HR4.cell0
  have r1 := HR4.cell1
  have r2 := HR4.cell2
  have r3 := HR4.cell3
  have g0 := HR4.free 0
  have g1 := HR4.free 1
  have g2 := HR4.free 2
  have g3 := HR4.free 3
  have HP := Lib.hid (hm1.storedQ (u0 := .bool p5.1) (u1 := .slice A5 n5 c5) (u2 := .bool pb0.1) (u3 := .slice B0 m0 d0) HR4)
  have HQ := Lib.hid (hq6.storedQ (u0 := .bool p5.1) (u1 := .slice A5 n5 c5) (u2 := .bool pb0.1) (u3 := .slice B0 m0 d0) HR4)
  have HBE := Lib.hid hw1
  clear HR4 hm1 hq6 hw1 hb1
  go_wp2_with fail
  refine Lex.lexQ_normal (fun h => absurd h (by decide)) ?_
  refine Lex.lex_nil ?_
  go_wp2
  refine bodyPost_ret (v := .agg #[.bool p5.1, .slice A5 n5 c5, .bool pb0.1, .slice B0 m0 d0]) (by simp [results, Tryz.results49, go_sem, r0, r1, r2, r3]) rfl ⟨_, rfl, ⟨p5.1, _, pb0.1, _, rfl, HP.out, HQ.out⟩, ?_⟩
  exact (((HBE.out.setCell (by simp; try omega) _).setCell (by simp; try omega) _).setCell (by simp; try omega) _).setCell (by simp; try omega) _

set_option maxRecDepth 100000 in
set_option maxHeartbeats 1600000 in
theorem roff_any (p q p1 q1 : Int) (w : World) (hp : I64 p) (hq : I64 q) (hp1 : I64 p1) (hq1 : I64 q1) :
    Calls Tryz.prog 72 #[.agg #[.int .i64 p, .int .i64 q], .agg #[.int .i64 p1, .int .i64 q1]] w (RetRQ ((p * q1 - p1 * q).natAbs : Int) (q * q1) 12 w) := by
  have ca : ∀ W (_ : Below w.heap.size w W), Calls Tryz.prog 22 #[.agg #[.int .i64 p, .int .i64 q]] W (RetRQ p q 5 W) := fun W _ => of_any' p q W hp hq
  have cb : ∀ W (_ : Below w.heap.size w W), Calls Tryz.prog 22 #[.agg #[.int .i64 p1, .int .i64 q1]] W (RetRQ p1 q1 5 W) := fun W _ => of_any' p1 q1 W hp1 hq1
  have cs : ∀ W (_ : Below w.heap.size w W) u v, IsRQ W u p q 5 → IsRQ W v p1 q1 5 → Calls Tryz.prog 40 #[u, v] W (RetRQ (p * q1 - p1 * q) (q * q1) 12 W) := fun W _ u v h1 h2 => rsubq_any h1 h2 (by omega) (by omega)
  have cx : ∀ W (_ : Below w.heap.size w W) u, IsRQ W u (p * q1 - p1 * q) (q * q1) 12 → Calls Tryz.prog 49 #[u] W (RetRQ ((p * q1 - p1 * q).natAbs : Int) (q * q1) 12 W) := fun W _ u h => rabsq_any h
  clear hp hq hp1 hq1
  obtain ⟨W3, hW3⟩ : ∃ W3, W3 = (((w.alloc (.cells #[.int .i64 p, .int .i64 q] 28)).alloc (.cells #[.int .i64 p1, .int .i64 q1] 28)).alloc (.cells #[.bool false, .slice none 0 0, .bool false, .slice none 0 0] 40)) := ⟨_, rfl⟩
  have hB : Below w.heap.size w W3 := by rw [hW3]; exact ((((Below.refl _ _).alloc (Nat.le_refl _) _).alloc (by simp; try omega) _).alloc (by simp; try omega) _)
  have HBW := Lib.hid hB
  have HF := Lib.hid (show Two W3 (w.heap.size) (.int .i64 p) (.int .i64 q) 28 by rw [hW3]; exact (((((Two.newAt _ _ _ _ _ (by simp))).alloc _)).alloc _))
  have HG := Lib.hid (show Two W3 (w.heap.size + 1) (.int .i64 p1) (.int .i64 q1) 28 by rw [hW3]; exact (((Two.newAt _ _ _ _ _ (by simp))).alloc _))
  have HR := Lib.hid (show Four W3 (w.heap.size + 1 + 1) (.bool false) (.slice none 0 0) (.bool false) (.slice none 0 0) 40 by rw [hW3]; exact (Four.newAt _ _ _ _ _ _ _ (by simp)))
  clear hB
  go_enter Tryz.func72, Tryz.ntmps72
  go_wp2_with fail
  rw [← hW3]
  clear hW3
  refine Lex.wp_region_lex (fun w' => Two w' w.heap.size (.int .i64 p) (.int .i64 q) 28 ∧ Two w' (w.heap.size + 1) (.int .i64 p1) (.int .i64 q1) 28) (fun j => j != 6)
    [(0, true), (2, true), (1, false), (3, false), (4, false), (5, false), (6, false)]
    (by kernel_rfl) (by kernel_rfl) (by kernel_rfl) (by kernel_rfl) ⟨HF.out, HG.out⟩ ?_
  iterate 2 (refine Lex.lex_take (v := ?_) rfl rfl (by rfl) (fun _ hS => ?_) ?_; rotate_left 1; (focus (have g0_0 := hS.1.cell0; have g0_1 := hS.1.cell1; have g1_0 := hS.2.cell0; have g1_1 := hS.2.cell1; clear hS; go_simp; with_reducible rfl)); simp only [List.setIfInBounds_toArray, List.set_cons_zero, List.set_cons_succ])
  refine Lex.lex_do rfl ?_
  have hb0 : Below W3.heap.size W3 W3.drew := ⟨rfl, rfl, rfl, Nat.le_refl _, fun _ _ => rfl⟩
  have hw0 : Below w.heap.size w W3.drew := ⟨HBW.out.os, HBW.out.tape, HBW.out.output, HBW.out.size, HBW.out.block⟩
  generalize hV0 : W3.drew = V0 at *
  clear hV0
  have cc := ca V0 hw0
  go_wp2_with fail
  refine cc.mono ?_
  rintro e V1 ⟨v1, rfl, hm1, hn1⟩
  have hb1 := hb0.trans (hn1.mono hb0.size)
  have hw1 := hw0.trans (hn1.mono hw0.size)
  clear cc hb0 hw0 hn1
  go_wp2_with fail
  have E0 := HF.out.below hb1 HF.out.lt
  have E1 := HG.out.below hb1 HG.out.lt
  refine Lex.lexQ_normal (fun _ => ⟨E0, E1⟩) ?_
  refine Lex.lex_do rfl ?_
  clear E0 E1
  have cc := cb V1 hw1
  go_wp2_with fail
  refine cc.mono ?_
  rintro e V2 ⟨v2, rfl, hm2, hn2⟩
  have hb2 := hb1.trans (hn2.mono hb1.size)
  have hw2 := hw1.trans (hn2.mono hw1.size)
  have hm1 := hm1.below hn2
  clear cc hb1 hw1 hn2
  go_wp2_with fail
  have E0 := HF.out.below hb2 HF.out.lt
  have E1 := HG.out.below hb2 HG.out.lt
  refine Lex.lexQ_normal (fun _ => ⟨E0, E1⟩) ?_
  refine Lex.lex_do rfl ?_
  clear E0 E1
  have cc := cs V2 hw2 _ _ hm1 hm2
  go_wp2_with fail
  refine cc.mono ?_
  rintro e V3 ⟨v3, rfl, hm3, hn3⟩
  have hb3 := hb2.trans (hn3.mono hb2.size)
  have hw3 := hw2.trans (hn3.mono hw2.size)
  clear hm1 hm2
  clear cc hb2 hw2 hn3
  go_wp2_with fail
  have E0 := HF.out.below hb3 HF.out.lt
  have E1 := HG.out.below hb3 HG.out.lt
  refine Lex.lexQ_normal (fun _ => ⟨E0, E1⟩) ?_
  refine Lex.lex_do rfl ?_
  clear E0 E1
  have cc := cx V3 hw3 _ hm3
  go_wp2_with fail
  refine cc.mono ?_
  rintro e V4 ⟨v4, rfl, hm4, hn4⟩
  have hb4 := hb3.trans (hn4.mono hb3.size)
  have hw4 := hw3.trans (hn4.mono hw3.size)
  clear hm3
  clear cc hb3 hw3 hn4
  go_wp2_with fail
  have E0 := HF.out.below hb4 HF.out.lt
  have E1 := HG.out.below hb4 HG.out.lt
  refine Lex.lexQ_normal (fun _ => ⟨E0, E1⟩) ?_
  refine Lex.lex_do rfl ?_
  clear E0 E1
  obtain ⟨p5, A5, n5, c5, p6, A6, n6, c6, rfl, hp5, hq6⟩ := hm4.open'
  have HR4 := HR.out.below hb4 HR.out.lt
  have r0 := HR4.cell0
  have r1 := HR4.cell1
  have r2 := HR4.cell2
  have r3 := HR4.cell3
  have g0 := HR4.free 0
  have g1 := HR4.free 1
  have g2 := HR4.free 2
  have g3 := HR4.free 3
  have HP := Lib.hid (hp5.storedQ (u0 := .bool p5.1) (u1 := .slice A5 n5 c5) (u2 := .bool p6.1) (u3 := .slice A6 n6 c6) HR4)
  have HQ := Lib.hid (hq6.storedQ (u0 := .bool p5.1) (u1 := .slice A5 n5 c5) (u2 := .bool p6.1) (u3 := .slice A6 n6 c6) HR4)
  have HBE := Lib.hid hw4
  clear HR4 hp5 hq6 hw4 hb4
  go_wp2_with fail
  refine Lex.lexQ_normal (fun h => absurd h (by decide)) ?_
  refine Lex.lex_nil ?_
  go_wp2
  refine bodyPost_ret (v := .agg #[.bool p5.1, .slice A5 n5 c5, .bool p6.1, .slice A6 n6 c6]) (by simp [results, Tryz.results72, go_sem, r0, r1, r2, r3]) rfl ⟨_, rfl, ⟨p5.1, _, p6.1, _, rfl, HP.out, HQ.out⟩, ?_⟩
  exact (((HBE.out.setCell (by simp; try omega) _).setCell (by simp; try omega) _).setCell (by simp; try omega) _).setCell (by simp; try omega) _

end Go.Proofs.YtklngjjokbhfpaaGreat
