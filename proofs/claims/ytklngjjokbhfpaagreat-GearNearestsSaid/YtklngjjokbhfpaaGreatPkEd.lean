/- Texts Ed Ee in one. -/
import Derived.Test.YtklngjjokbhfpaaGreatPkDh
import Derived.Test.YtklngjjokbhfpaaGreatPkCk
import Derived.Test.YtklngjjokbhfpaaGreatLz
namespace Go.Proofs.YtklngjjokbhfpaaGreat
open Go.RowKit

set_option maxRecDepth 100000 in
set_option maxHeartbeats 1600000 in
theorem qsign_any {w : World} {u : Value} {p q : Int} {N : Nat} (hu : IsQ w u p q N) (hN : N ≤ 200) :
    Calls Tryz.prog 140 #[u] w (RetV (.int .i64 (sgn p)) w) := by
  obtain ⟨pa0, A0, n0, c0, pb0, B0, m0, d0, rfl, hp, hq⟩ := hu.open2
  have ca : ∀ W (_ : Below w.heap.size w W), Calls Tryz.prog 155 #[.agg #[.bool pa0.1, .slice A0 n0 c0]] W (RetW (.int .i64 (sgn p)) W) := fun W hb => (sign_any _ _ _ W (hp.below hb) (by omega)).mono fun e w' h => RetW.of h
  clear hu hp hq
  obtain ⟨W3, hW3⟩ : ∃ W3, W3 = (w.alloc (.cells #[.bool pa0.1, .slice A0 n0 c0, .bool pb0.1, .slice B0 m0 d0] 98)) := ⟨_, rfl⟩
  have hB : Below w.heap.size w W3 := by rw [hW3]; exact ((Below.refl _ _).alloc (Nat.le_refl _) _)
  have HBW := Lib.hid hB
  have HF := Lib.hid (show Four W3 (w.heap.size) (.bool pa0.1) (.slice A0 n0 c0) (.bool pb0.1) (.slice B0 m0 d0) 98 by rw [hW3]; exact (Four.newAt _ _ _ _ _ _ _ (by simp)))
  clear hB
  go_enter Tryz.func140, Tryz.ntmps140
  go_upto_region 1 with fail
  rw [← hW3]
  clear hW3
  have k0_0 := HF.out.cell0
  have k0_1 := HF.out.cell1
  have k0_2 := HF.out.cell2
  have k0_3 := HF.out.cell3
  have hb0 := Below.refl W3.heap.size W3
  have hw0 := HBW.out
  have cc := ca W3 hw0
  go_wp2_with fail
  refine cc.mono ?_
  rintro e V1 ⟨v1, rfl, hm1, hn1⟩
  have hb1 := hb0.trans (hn1.mono hb0.size)
  have hw1 := hw0.trans (hn1.mono hw0.size)
  subst hm1
  clear cc hb0 hw0 hn1
  clear k0_0 k0_1 k0_2 k0_3
  have k0_0 := (HF.out.below hb1 HF.out.lt).cell0
  have k0_1 := (HF.out.below hb1 HF.out.lt).cell1
  have k0_2 := (HF.out.below hb1 HF.out.lt).cell2
  have k0_3 := (HF.out.below hb1 HF.out.lt).cell3
  clear hb1
  go_wp2
  go_ret
  exact ⟨rfl, hw1⟩

set_option maxRecDepth 100000 in
set_option maxHeartbeats 1600000 in
theorem qsub_any {w : World} {u v : Value} {p q p1 q1 : Int} {N M : Nat} (hu : IsQ w u p q N) (hv : IsQ w v p1 q1 M) (hN : N ≤ 200) (hM : M ≤ 200) :
    Calls Tryz.prog 78 #[u, v] w (RetQ (p * q1 - p1 * q) (q * q1) (N + M + 1) w) := by
  obtain ⟨pa0, A0, n0, c0, pb0, B0, m0, d0, rfl, hp, hq⟩ := hu.open2
  obtain ⟨pa1, A1, n1, c1, pb1, B1, m1, d1, rfl, hp1, hq1⟩ := hv.open2
  have cn : ∀ W (_ : Below w.heap.size w W), Calls Tryz.prog 114 #[.agg #[.bool pa1.1, .slice A1 n1 c1]] W (RetZ (-p1) M W) := fun W hb => neg_any _ _ _ W (hp1.below hb) (by omega)
  have cs : ∀ W (_ : Below w.heap.size w W) (p7 : Bool × Unit) (A7 : Option Addr) (n7 c7 : Nat), IsZ W (.agg #[.bool p7.1, .slice A7 n7 c7]) (-p1) M → Calls Tryz.prog 80 #[.agg #[.bool pa0.1, .slice A0 n0 c0, .bool pb0.1, .slice B0 m0 d0], .agg #[.bool p7.1, .slice A7 n7 c7, .bool pb1.1, .slice B1 m1 d1]] W (RetQ (p * q1 - p1 * q) (q * q1) (N + M + 1) W) := fun W hb p7 A7 n7 c7 h => by
    have := qadd_any (p := p) (q := q) (p1 := -p1) (q1 := q1) (N := N) (M := M) ⟨pa0.1, _, pb0.1, _, rfl, hp.below hb, hq.below hb⟩ ⟨p7.1, _, pb1.1, _, rfl, h, hq1.below hb⟩ hN hM
    rwa [show p * q1 + -p1 * q = p * q1 - p1 * q by rw [Int.neg_mul]; omega] at this
  clear hu hv hp hq hp1 hq1
  obtain ⟨W3, hW3⟩ : ∃ W3, W3 = (((w.alloc (.cells #[.bool pa0.1, .slice A0 n0 c0, .bool pb0.1, .slice B0 m0 d0] 98)).alloc (.cells #[.bool pa1.1, .slice A1 n1 c1, .bool pb1.1, .slice B1 m1 d1] 98)).alloc (.cells #[.bool false, .slice none 0 0, .bool false, .slice none 0 0] 98)) := ⟨_, rfl⟩
  have hB : Below w.heap.size w W3 := by rw [hW3]; exact ((((Below.refl _ _).alloc (Nat.le_refl _) _).alloc (by simp; try omega) _).alloc (by simp; try omega) _)
  have HBW := Lib.hid hB
  have HF := Lib.hid (show Four W3 (w.heap.size) (.bool pa0.1) (.slice A0 n0 c0) (.bool pb0.1) (.slice B0 m0 d0) 98 by rw [hW3]; exact (((((Four.newAt _ _ _ _ _ _ _ (by simp))).alloc _)).alloc _))
  have HG := Lib.hid (show Four W3 (w.heap.size + 1) (.bool pa1.1) (.slice A1 n1 c1) (.bool pb1.1) (.slice B1 m1 d1) 98 by rw [hW3]; exact (((Four.newAt _ _ _ _ _ _ _ (by simp))).alloc _))
  have HR := Lib.hid (show Four W3 (w.heap.size + 1 + 1) (.bool false) (.slice none 0 0) (.bool false) (.slice none 0 0) 98 by rw [hW3]; exact (Four.newAt _ _ _ _ _ _ _ (by simp)))
  clear hB
  go_enter Tryz.func78, Tryz.ntmps78
  go_wp2_with fail
  rw [← hW3]
  clear hW3
  refine Lex.wp_region_lex (fun w' => Four w' w.heap.size (.bool pa0.1) (.slice A0 n0 c0) (.bool pb0.1) (.slice B0 m0 d0) 98 ∧ Four w' (w.heap.size + 1) (.bool pa1.1) (.slice A1 n1 c1) (.bool pb1.1) (.slice B1 m1 d1) 98) (fun j => j != 8)
    [(0, true), (1, true), (2, true), (4, true), (5, true), (3, false), (6, false), (7, false), (8, false)]
    (by kernel_rfl) (by kernel_rfl) (by kernel_rfl) (by kernel_rfl) ⟨HF.out, HG.out⟩ ?_
  iterate 5 (refine Lex.lex_take (v := ?_) rfl rfl (by rfl) (fun _ hS => ?_) ?_; rotate_left 1; (focus (have g0_0 := hS.1.cell0; have g0_1 := hS.1.cell1; have g0_2 := hS.1.cell2; have g0_3 := hS.1.cell3; have g1_0 := hS.2.cell0; have g1_1 := hS.2.cell1; have g1_2 := hS.2.cell2; have g1_3 := hS.2.cell3; clear hS; go_simp; with_reducible rfl)); simp only [List.setIfInBounds_toArray, List.set_cons_zero, List.set_cons_succ])
  refine Lex.lex_do rfl ?_
  have hb0 : Below W3.heap.size W3 W3.drew := ⟨rfl, rfl, rfl, Nat.le_refl _, fun _ _ => rfl⟩
  have hw0 : Below w.heap.size w W3.drew := ⟨HBW.out.os, HBW.out.tape, HBW.out.output, HBW.out.size, HBW.out.block⟩
  generalize hV0 : W3.drew = V0 at *
  clear hV0
  have cc := cn V0 hw0
  go_wp2_with fail
  refine cc.mono ?_
  rintro e V1 ⟨v1, rfl, hm1, hn1⟩
  have hb1 := hb0.trans (hn1.mono hb0.size)
  have hw1 := hw0.trans (hn1.mono hw0.size)
  clear cc hb0 hw0 hn1
  go_wp2_with fail
  have E0 := HF.out.below hb1 HF.out.lt
  have E1 := HG.out.below hb1 HG.out.lt
  refine Lex.lexQ_normal (fun _ => ⟨E0, E1⟩) ?_
  refine Lex.lex_do rfl ?_
  clear E0 E1
  obtain ⟨p7, A7, n7, c7, rfl⟩ := hm1.agg'
  go_wp2_with fail
  have E0 := HF.out.below hb1 HF.out.lt
  have E1 := HG.out.below hb1 HG.out.lt
  refine Lex.lexQ_normal (fun _ => ⟨E0, E1⟩) ?_
  refine Lex.lex_do rfl ?_
  clear E0 E1
  have cc := cs V1 hw1 _ _ _ _ hm1
  go_wp2_with fail
  refine cc.mono ?_
  rintro e V2 ⟨v2, rfl, hm2, hn2⟩
  have hb2 := hb1.trans (hn2.mono hb1.size)
  have hw2 := hw1.trans (hn2.mono hw1.size)
  clear hm1
  clear cc hb1 hw1 hn2
  go_wp2_with fail
  have E0 := HF.out.below hb2 HF.out.lt
  have E1 := HG.out.below hb2 HG.out.lt
  refine Lex.lexQ_normal (fun _ => ⟨E0, E1⟩) ?_
  refine Lex.lex_do rfl ?_
  clear E0 E1
  obtain ⟨p5, A5, n5, c5, p6, A6, n6, c6, rfl, hp5, hq6⟩ := hm2.open2
  have HR4 := HR.out.below hb2 HR.out.lt
  have r0 := HR4.cell0
  have r1 := HR4.cell1
  have r2 := HR4.cell2
  have r3 := HR4.cell3
  have g0 := HR4.free 0
  have g1 := HR4.free 1
  have g2 := HR4.free 2
  have g3 := HR4.free 3
  have HP := Lib.hid (hp5.storedF (u0 := .bool p5.1) (u1 := .slice A5 n5 c5) (u2 := .bool p6.1) (u3 := .slice A6 n6 c6) HR4)
  have HQ := Lib.hid (hq6.storedF (u0 := .bool p5.1) (u1 := .slice A5 n5 c5) (u2 := .bool p6.1) (u3 := .slice A6 n6 c6) HR4)
  have HBE := Lib.hid hw2
  clear HR4 hp5 hq6 hw2 hb2
  go_wp2_with fail
  refine Lex.lexQ_normal (fun h => absurd h (by decide)) ?_
  refine Lex.lex_nil ?_
  go_wp2
  refine bodyPost_ret (v := .agg #[.bool p5.1, .slice A5 n5 c5, .bool p6.1, .slice A6 n6 c6]) (by simp [results, Tryz.results78, go_sem, r0, r1, r2, r3]) rfl ⟨_, rfl, ⟨p5.1, _, p6.1, _, rfl, HP.out, HQ.out⟩, ?_⟩
  exact (((HBE.out.setCell (by simp; try omega) _).setCell (by simp; try omega) _).setCell (by simp; try omega) _).setCell (by simp; try omega) _

set_option maxRecDepth 100000 in
set_option maxHeartbeats 1600000 in
theorem qabs_neg {w : World} {u : Value} {p q : Int} {N : Nat} (hu : IsQ w u p q N) (hN : N ≤ 200) (h : p < 0) :
    Calls Tryz.prog 112 #[u] w (RetQ (p.natAbs : Int) q N w) := by
  obtain ⟨pa0, A0, n0, c0, pb0, B0, m0, d0, rfl, hp, hq⟩ := hu.open2
  have hsg : sgn p = -1 := by unfold sgn; rw [if_pos h]
  have cs : ∀ W (_ : Below w.heap.size w W), Calls Tryz.prog 140 #[.agg #[.bool pa0.1, .slice A0 n0 c0, .bool pb0.1, .slice B0 m0 d0]] W (RetW (.int .i64 (sgn p)) W) := fun W hb => (qsign_any (p := p) (q := q) ⟨pa0.1, _, pb0.1, _, rfl, hp.below hb, hq.below hb⟩ hN).mono fun e w' h => RetW.of h
  rw [hsg] at cs
  have cn : ∀ W (_ : Below w.heap.size w W), Calls Tryz.prog 114 #[.agg #[.bool pa0.1, .slice A0 n0 c0]] W (RetZ (p.natAbs : Int) N W) := fun W hb => by
    have := neg_any _ _ _ W (hp.below hb) (by omega)
    rwa [show -p = (p.natAbs : Int) by omega] at this
  have hq0 := Lib.hid hq
  clear hu hp hq hsg h
  obtain ⟨W3, hW3⟩ : ∃ W3, W3 = ((w.alloc (.cells #[.bool pa0.1, .slice A0 n0 c0, .bool pb0.1, .slice B0 m0 d0] 98)).alloc (.cells #[.bool false, .slice none 0 0, .bool false, .slice none 0 0] 98)) := ⟨_, rfl⟩
  have hB : Below w.heap.size w W3 := by rw [hW3]; exact (((Below.refl _ _).alloc (Nat.le_refl _) _).alloc (by simp; try omega) _)
  have HBW := Lib.hid hB
  have HF := Lib.hid (show Four W3 (w.heap.size) (.bool pa0.1) (.slice A0 n0 c0) (.bool pb0.1) (.slice B0 m0 d0) 98 by rw [hW3]; exact (((Four.newAt _ _ _ _ _ _ _ (by simp))).alloc _))
  have HR := Lib.hid (show Four W3 (w.heap.size + 1) (.bool false) (.slice none 0 0) (.bool false) (.slice none 0 0) 98 by rw [hW3]; exact (Four.newAt _ _ _ _ _ _ _ (by simp)))
  clear hB
  go_enter Tryz.func112, Tryz.ntmps112
  go_upto_region 1 with fail
  rw [← hW3]
  clear hW3
  have k0_0 := HF.out.cell0
  have k0_1 := HF.out.cell1
  have k0_2 := HF.out.cell2
  have k0_3 := HF.out.cell3
  have hb0 := Below.refl W3.heap.size W3
  have hw0 := HBW.out
  have cc := cs W3 hw0
  go_wp2_with fail
  refine cc.mono ?_
  rintro e V1 ⟨v1, rfl, hm1, hn1⟩
  have hb1 := hb0.trans (hn1.mono hb0.size)
  have hw1 := hw0.trans (hn1.mono hw0.size)
  subst hm1
  clear cc hb0 hw0 hn1
  clear k0_0 k0_1 k0_2 k0_3
  have k0_0 := (HF.out.below hb1 HF.out.lt).cell0
  have k0_1 := (HF.out.below hb1 HF.out.lt).cell1
  have k0_2 := (HF.out.below hb1 HF.out.lt).cell2
  have k0_3 := (HF.out.below hb1 HF.out.lt).cell3
  have XF := Lib.hid (HF.out.below hb1 HF.out.lt)
  have HR0 := Lib.hid (HR.out.below hb1 HR.out.lt)
  have XW := Lib.hid hw1
  clear hb1 hw1 HF HR HBW cs k0_0 k0_1 k0_2 k0_3
  have HR := HR0
  clear HR0
  go_upto_region 2 with fail
  refine Lex.wp_region_lex (fun w' => Four w' w.heap.size (.bool pa0.1) (.slice A0 n0 c0) (.bool pb0.1) (.slice B0 m0 d0) 98) (fun j => j != 6)
    [(0, true), (1, true), (3, true), (4, true), (2, false), (5, false), (6, false)]
    (by kernel_rfl) (by kernel_rfl) (by kernel_rfl) (by kernel_rfl) XF.out ?_
  iterate 4 (refine Lex.lex_take (v := ?_) rfl rfl (by rfl) (fun _ hS => ?_) ?_; rotate_left 1; (focus (have g0_0 := hS.cell0; have g0_1 := hS.cell1; have g0_2 := hS.cell2; have g0_3 := hS.cell3; clear hS; go_simp; with_reducible rfl)); simp only [List.setIfInBounds_toArray, List.set_cons_zero, List.set_cons_succ])
  refine Lex.lex_do rfl ?_
  have hb0 : Below V1.heap.size V1 V1.drew := ⟨rfl, rfl, rfl, Nat.le_refl _, fun _ _ => rfl⟩
  have hw0 : Below w.heap.size w V1.drew := ⟨XW.out.os, XW.out.tape, XW.out.output, XW.out.size, XW.out.block⟩
  generalize hV0 : V1.drew = V0 at *
  clear hV0
  have cc := cn V0 hw0
  go_wp2_with fail
  refine cc.mono ?_
  rintro e V1 ⟨v1, rfl, hm1, hn1⟩
  have hb1 := hb0.trans (hn1.mono hb0.size)
  have hw1 := hw0.trans (hn1.mono hw0.size)
  clear cc hb0 hw0 hn1
  go_wp2_with fail
  have E0 := XF.out.below hb1 XF.out.lt
  refine Lex.lexQ_normal (fun _ => E0) ?_
  refine Lex.lex_do rfl ?_
  clear E0
  obtain ⟨p5, A5, n5, c5, rfl⟩ := hm1.agg'
  obtain ⟨p6, hp6⟩ : ∃ p6, p6 = pb0 := ⟨_, rfl⟩
  obtain ⟨A6, hA6⟩ : ∃ A6, A6 = B0 := ⟨_, rfl⟩
  obtain ⟨n6, hn6⟩ : ∃ n6, n6 = m0 := ⟨_, rfl⟩
  obtain ⟨c6, hc6⟩ : ∃ c6, c6 = d0 := ⟨_, rfl⟩
  have hq6 : IsZ V1 (.agg #[.bool p6.1, .slice A6 n6 c6]) q N := by rw [hp6, hA6, hn6, hc6]; exact hq0.out.below hw1
  subst hp6 hA6 hn6 hc6
  go_wp2_with fail
  have E0 := XF.out.below hb1 XF.out.lt
  refine Lex.lexQ_normal (fun _ => E0) ?_
  refine Lex.lex_do rfl ?_
  clear E0
  have HR4 := HR.out.below hb1 HR.out.lt
  have r0 := HR4.cell0
  have r1 := HR4.cell1
  have r2 := HR4.cell2
  have r3 := HR4.cell3
  have g0 := HR4.free 0
  have g1 := HR4.free 1
  have g2 := HR4.free 2
  have g3 := HR4.free 3
  have HP := Lib.hid (hm1.storedF (u0 := .bool p5.1) (u1 := .slice A5 n5 c5) (u2 := .bool p6.1) (u3 := .slice A6 n6 c6) HR4)
  have HQ := Lib.hid (hq6.storedF (u0 := .bool p5.1) (u1 := .slice A5 n5 c5) (u2 := .bool p6.1) (u3 := .slice A6 n6 c6) HR4)
  have HBE := Lib.hid hw1
  clear HR4 hm1 hq6 hw1 hb1
  go_wp2_with fail
  refine Lex.lexQ_normal (fun h => absurd h (by decide)) ?_
  refine Lex.lex_nil ?_
  go_wp2
  refine bodyPost_ret (v := .agg #[.bool p5.1, .slice A5 n5 c5, .bool p6.1, .slice A6 n6 c6]) (by simp [results, Tryz.results112, go_sem, r0, r1, r2, r3]) rfl ⟨_, rfl, ⟨p5.1, _, p6.1, _, rfl, HP.out, HQ.out⟩, ?_⟩
  exact (((HBE.out.setCell (by simp; try omega) _).setCell (by simp; try omega) _).setCell (by simp; try omega) _).setCell (by simp; try omega) _

set_option maxRecDepth 100000 in
set_option maxHeartbeats 1600000 in
theorem qabs_pos {w : World} {u : Value} {p q : Int} {N : Nat} (hu : IsQ w u p q N) (hN : N ≤ 200) (h : ¬ p < 0) :
    Calls Tryz.prog 112 #[u] w (RetQ (p.natAbs : Int) q N w) := by
  obtain ⟨pa0, A0, n0, c0, pb0, B0, m0, d0, rfl, hp, hq⟩ := hu.open2
  have hsg : sgn p ≥ 0 := by unfold sgn; rw [if_neg h]; split <;> omega
  have cs : ∀ W (_ : Below w.heap.size w W), Calls Tryz.prog 140 #[.agg #[.bool pa0.1, .slice A0 n0 c0, .bool pb0.1, .slice B0 m0 d0]] W (RetW (.int .i64 (sgn p)) W) := fun W hb => (qsign_any (p := p) (q := q) ⟨pa0.1, _, pb0.1, _, rfl, hp.below hb, hq.below hb⟩ hN).mono fun e w' h => RetW.of h
  have hp0 := Lib.hid hp
  have hq0 := Lib.hid hq
  have habs := Lib.hid (show (p.natAbs : Int) = p by omega)
  generalize sgn p = sg at *
  have htest : ¬ sg < 0 := by omega
  clear hu hp hq hsg h
  obtain ⟨W3, hW3⟩ : ∃ W3, W3 = ((w.alloc (.cells #[.bool pa0.1, .slice A0 n0 c0, .bool pb0.1, .slice B0 m0 d0] 98)).alloc (.cells #[.bool false, .slice none 0 0, .bool false, .slice none 0 0] 98)) := ⟨_, rfl⟩
  have hB : Below w.heap.size w W3 := by rw [hW3]; exact (((Below.refl _ _).alloc (Nat.le_refl _) _).alloc (by simp; try omega) _)
  have HBW := Lib.hid hB
  have HF := Lib.hid (show Four W3 (w.heap.size) (.bool pa0.1) (.slice A0 n0 c0) (.bool pb0.1) (.slice B0 m0 d0) 98 by rw [hW3]; exact (((Four.newAt _ _ _ _ _ _ _ (by simp))).alloc _))
  have HR := Lib.hid (show Four W3 (w.heap.size + 1) (.bool false) (.slice none 0 0) (.bool false) (.slice none 0 0) 98 by rw [hW3]; exact (Four.newAt _ _ _ _ _ _ _ (by simp)))
  clear hB
  go_enter Tryz.func112, Tryz.ntmps112
  go_upto_region 1 with fail
  rw [← hW3]
  clear hW3
  have k0_0 := HF.out.cell0
  have k0_1 := HF.out.cell1
  have k0_2 := HF.out.cell2
  have k0_3 := HF.out.cell3
  have hb0 := Below.refl W3.heap.size W3
  have hw0 := HBW.out
  have cc := cs W3 hw0
  go_wp2_with fail
  refine cc.mono ?_
  rintro e V1 ⟨v1, rfl, hm1, hn1⟩
  have hb1 := hb0.trans (hn1.mono hb0.size)
  have hw1 := hw0.trans (hn1.mono hw0.size)
  subst hm1
  clear cc hb0 hw0 hn1
  clear k0_0 k0_1 k0_2 k0_3
  have k0_0 := (HF.out.below hb1 HF.out.lt).cell0
  have k0_1 := (HF.out.below hb1 HF.out.lt).cell1
  have k0_2 := (HF.out.below hb1 HF.out.lt).cell2
  have k0_3 := (HF.out.below hb1 HF.out.lt).cell3
  have r0 := (HR.out.below hb1 HR.out.lt).cell0
  have r1 := (HR.out.below hb1 HR.out.lt).cell1
  have r2 := (HR.out.below hb1 HR.out.lt).cell2
  have r3 := (HR.out.below hb1 HR.out.lt).cell3
  have g0 := (HR.out.below hb1 HR.out.lt).free 0
  have g1 := (HR.out.below hb1 HR.out.lt).free 1
  have g2 := (HR.out.below hb1 HR.out.lt).free 2
  have g3 := (HR.out.below hb1 HR.out.lt).free 3
  have HR4 := HR.out.below hb1 HR.out.lt
  have HP := Lib.hid ((hp0.out.below hw1).storedF (u0 := .bool pa0.1) (u1 := .slice A0 n0 c0) (u2 := .bool pb0.1) (u3 := .slice B0 m0 d0) HR4)
  have HQ := Lib.hid ((hq0.out.below hw1).storedF (u0 := .bool pa0.1) (u1 := .slice A0 n0 c0) (u2 := .bool pb0.1) (u3 := .slice B0 m0 d0) HR4)
  have HBE := Lib.hid hw1
  clear HR4 hb1 hw1 cs
  go_wp2
  rw [habs.out]
  refine bodyPost_ret (v := .agg #[.bool pa0.1, .slice A0 n0 c0, .bool pb0.1, .slice B0 m0 d0]) (by simp [results, Tryz.results112, go_sem, r0, r1, r2, r3]) rfl ⟨_, rfl, ⟨pa0.1, _, pb0.1, _, rfl, HP.out, HQ.out⟩, ?_⟩
  exact (((HBE.out.setCell (by simp; try omega) _).setCell (by simp; try omega) _).setCell (by simp; try omega) _).setCell (by simp; try omega) _

theorem qabs_any {w : World} {u : Value} {p q : Int} {N : Nat} (hu : IsQ w u p q N) (hN : N ≤ 200) : Calls Tryz.prog 112 #[u] w (RetQ (p.natAbs : Int) q N w) := by
  by_cases h : p < 0
  · exact qabs_neg hu hN h
  · exact qabs_pos hu hN h

set_option maxRecDepth 100000 in
set_option maxHeartbeats 1600000 in
theorem rsubq_any {w : World} {u v : Value} {p q p1 q1 : Int} {N M : Nat} (hu : IsRQ w u p q N) (hv : IsRQ w v p1 q1 M) (hN : N ≤ 200) (hM : M ≤ 200) :
    Calls Tryz.prog 40 #[u, v] w (RetRQ (p * q1 - p1 * q) (q * q1) (N + M + 2) w) := by
  obtain ⟨pa0, A0, n0, c0, pb0, B0, m0, d0, rfl, hp, hq⟩ := hu.open'
  obtain ⟨pa1, A1, n1, c1, pb1, B1, m1, d1, rfl, hp1, hq1⟩ := hv.open'
  have ca : ∀ W, Below w.heap.size w W → Calls Tryz.prog 65 #[.agg #[.bool pa0.1, .slice A0 n0 c0], .agg #[.bool pb1.1, .slice B1 m1 d1]] W (RetR (p * q1) (N + M + 1) W) := fun W hb => rmul_any (hp.below hb) (hq1.below hb) (by omega) (by omega)
  have cb : ∀ W, Below w.heap.size w W → Calls Tryz.prog 65 #[.agg #[.bool pa1.1, .slice A1 n1 c1], .agg #[.bool pb0.1, .slice B0 m0 d0]] W (RetR (p1 * q) (M + N + 1) W) := fun W hb => rmul_any (hp1.below hb) (hq.below hb) (by omega) (by omega)
  have cs : ∀ W (_ : Below w.heap.size w W) u v, IsR W u (p * q1) (N + M + 1) → IsR W v (p1 * q) (M + N + 1) → Calls Tryz.prog 84 #[u, v] W (RetR (p * q1 - p1 * q) (N + M + 2) W) := fun W _ u v h1 h2 => (rsub_any h1 h2 (by omega) (by omega)).mono fun e w' ⟨v, g1, g2, g3⟩ => ⟨v, g1, g2.more (by omega), g3⟩
  have cc : ∀ W, Below w.heap.size w W → Calls Tryz.prog 65 #[.agg #[.bool pb0.1, .slice B0 m0 d0], .agg #[.bool pb1.1, .slice B1 m1 d1]] W (RetR (q * q1) (N + M + 2) W) := fun W hb => (rmul_any (hq.below hb) (hq1.below hb) (by omega) (by omega)).mono fun e w' ⟨v, g1, g2, g3⟩ => ⟨v, g1, g2.more (by omega), g3⟩
  clear hu hv hp hq hp1 hq1
  obtain ⟨W3, hW3⟩ : ∃ W3, W3 = (((w.alloc (.cells #[.bool pa0.1, .slice A0 n0 c0, .bool pb0.1, .slice B0 m0 d0] 40)).alloc (.cells #[.bool pa1.1, .slice A1 n1 c1, .bool pb1.1, .slice B1 m1 d1] 40)).alloc (.cells #[.bool false, .slice none 0 0, .bool false, .slice none 0 0] 40)) := ⟨_, rfl⟩
  have hB : Below w.heap.size w W3 := by rw [hW3]; exact ((((Below.refl _ _).alloc (Nat.le_refl _) _).alloc (by simp; try omega) _).alloc (by simp; try omega) _)
  have HBW := Lib.hid hB
  have HF := Lib.hid (show Four W3 (w.heap.size) (.bool pa0.1) (.slice A0 n0 c0) (.bool pb0.1) (.slice B0 m0 d0) 40 by rw [hW3]; exact (((((Four.newAt _ _ _ _ _ _ _ (by simp))).alloc _)).alloc _))
  have HG := Lib.hid (show Four W3 (w.heap.size + 1) (.bool pa1.1) (.slice A1 n1 c1) (.bool pb1.1) (.slice B1 m1 d1) 40 by rw [hW3]; exact (((Four.newAt _ _ _ _ _ _ _ (by simp))).alloc _))
  have HR := Lib.hid (show Four W3 (w.heap.size + 1 + 1) (.bool false) (.slice none 0 0) (.bool false) (.slice none 0 0) 40 by rw [hW3]; exact (Four.newAt _ _ _ _ _ _ _ (by simp)))
  clear hB
  go_enter Tryz.func40, Tryz.ntmps40
  go_wp2_with fail
  rw [← hW3]
  clear hW3
  refine Lex.wp_region_lex (fun w' => Four w' w.heap.size (.bool pa0.1) (.slice A0 n0 c0) (.bool pb0.1) (.slice B0 m0 d0) 40 ∧ Four w' (w.heap.size + 1) (.bool pa1.1) (.slice A1 n1 c1) (.bool pb1.1) (.slice B1 m1 d1) 40) (fun j => j != 17)
    [(0, true), (1, true), (2, true), (3, true), (5, true), (6, true), (7, true), (8, true), (11, true), (12, true), (13, true), (14, true), (4, false), (9, false), (10, false), (15, false), (16, false), (17, false)]
    (by kernel_rfl) (by kernel_rfl) (by kernel_rfl) (by kernel_rfl) ⟨HF.out, HG.out⟩ ?_
  iterate 12 (refine Lex.lex_take (v := ?_) rfl rfl (by rfl) (fun _ hS => ?_) ?_; rotate_left 1; (focus (have g0_0 := hS.1.cell0; have g0_1 := hS.1.cell1; have g0_2 := hS.1.cell2; have g0_3 := hS.1.cell3; have g1_0 := hS.2.cell0; have g1_1 := hS.2.cell1; have g1_2 := hS.2.cell2; have g1_3 := hS.2.cell3; clear hS; go_simp; with_reducible rfl)); simp only [List.setIfInBounds_toArray, List.set_cons_zero, List.set_cons_succ])
  refine Lex.lex_do rfl ?_
  have hb0 : Below W3.heap.size W3 W3.drew := ⟨rfl, rfl, rfl, Nat.le_refl _, fun _ _ => rfl⟩
  have hw0 : Below w.heap.size w W3.drew := ⟨HBW.out.os, HBW.out.tape, HBW.out.output, HBW.out.size, HBW.out.block⟩
  generalize hV0 : W3.drew = V0 at *
  clear hV0
  have cc := ca V0 hw0
  go_wp2_with fail
  refine cc.mono ?_
  rintro e V1 ⟨v1, rfl, hm1, hn1⟩
  have hb1 := hb0.trans (hn1.mono hb0.size)
  have hw1 := hw0.trans (hn1.mono hw0.size)
  clear cc hb0 hw0 hn1
  go_wp2_with fail
  have E0 := HF.out.below hb1 HF.out.lt
  have E1 := HG.out.below hb1 HG.out.lt
  refine Lex.lexQ_normal (fun _ => ⟨E0, E1⟩) ?_
  refine Lex.lex_do rfl ?_
  clear E0 E1
  have cc := cb V1 hw1
  go_wp2_with fail
  refine cc.mono ?_
  rintro e V2 ⟨v2, rfl, hm2, hn2⟩
  have hb2 := hb1.trans (hn2.mono hb1.size)
  have hw2 := hw1.trans (hn2.mono hw1.size)
  have hm1 := hm1.below hn2
  clear cc hb1 hw1 hn2
  go_wp2_with fail
  have E0 := HF.out.below hb2 HF.out.lt
  have E1 := HG.out.below hb2 HG.out.lt
  refine Lex.lexQ_normal (fun _ => ⟨E0, E1⟩) ?_
  refine Lex.lex_do rfl ?_
  clear E0 E1
  have cc := cs V2 hw2 _ _ hm1 hm2
  go_wp2_with fail
  refine cc.mono ?_
  rintro e V3 ⟨v3, rfl, hm3, hn3⟩
  have hb3 := hb2.trans (hn3.mono hb2.size)
  have hw3 := hw2.trans (hn3.mono hw2.size)
  clear hm1 hm2
  clear cc hb2 hw2 hn3
  go_wp2_with fail
  have E0 := HF.out.below hb3 HF.out.lt
  have E1 := HG.out.below hb3 HG.out.lt
  refine Lex.lexQ_normal (fun _ => ⟨E0, E1⟩) ?_
  refine Lex.lex_do rfl ?_
  clear E0 E1
  have cc := cc V3 hw3
  go_wp2_with fail
  refine cc.mono ?_
  rintro e V4 ⟨v4, rfl, hm4, hn4⟩
  have hb4 := hb3.trans (hn4.mono hb3.size)
  have hw4 := hw3.trans (hn4.mono hw3.size)
  have hm3 := hm3.below hn4
  clear cc hb3 hw3 hn4
  go_wp2_with fail
  have E0 := HF.out.below hb4 HF.out.lt
  have E1 := HG.out.below hb4 HG.out.lt
  refine Lex.lexQ_normal (fun _ => ⟨E0, E1⟩) ?_
  refine Lex.lex_do rfl ?_
  clear E0 E1
  obtain ⟨p5, A5, n5, c5, rfl⟩ := hm3.agg'
  obtain ⟨p6, A6, n6, c6, rfl⟩ := hm4.agg'
  go_wp2_with fail
  have E0 := HF.out.below hb4 HF.out.lt
  have E1 := HG.out.below hb4 HG.out.lt
  refine Lex.lexQ_normal (fun _ => ⟨E0, E1⟩) ?_
  refine Lex.lex_do rfl ?_
  clear E0 E1
  have HR4 := HR.out.below hb4 HR.out.lt
  have r0 := HR4.cell0
  have r1 := HR4.cell1
  have r2 := HR4.cell2
  have r3 := HR4.cell3
  have g0 := HR4.free 0
  have g1 := HR4.free 1
  have g2 := HR4.free 2
  have g3 := HR4.free 3
  have HP := Lib.hid (hm3.storedQ (u0 := .bool p5.1) (u1 := .slice A5 n5 c5) (u2 := .bool p6.1) (u3 := .slice A6 n6 c6) HR4)
  have HQ := Lib.hid (hm4.storedQ (u0 := .bool p5.1) (u1 := .slice A5 n5 c5) (u2 := .bool p6.1) (u3 := .slice A6 n6 c6) HR4)
  have HBE := Lib.hid hw4
  clear HR4 hm3 hm4 hw4 hb4
  go_wp2_with fail
  refine Lex.lexQ_normal (fun h => absurd h (by decide)) ?_
  refine Lex.lex_nil ?_
  go_wp2
  refine bodyPost_ret (v := .agg #[.bool p5.1, .slice A5 n5 c5, .bool p6.1, .slice A6 n6 c6]) (by simp [results, Tryz.results40, go_sem, r0, r1, r2, r3]) rfl ⟨_, rfl, ⟨p5.1, _, p6.1, _, rfl, HP.out, HQ.out⟩, ?_⟩
  exact (((HBE.out.setCell (by simp; try omega) _).setCell (by simp; try omega) _).setCell (by simp; try omega) _).setCell (by simp; try omega) _

set_option maxRecDepth 100000 in
set_option maxHeartbeats 1600000 in
theorem rabsq_any {w : World} {u : Value} {p q : Int} {N : Nat} (hu : IsRQ w u p q N) :
    Calls Tryz.prog 49 #[u] w (RetRQ (p.natAbs : Int) q N w) := by
  obtain ⟨pa0, A0, n0, c0, pb0, B0, m0, d0, rfl, hp, hq⟩ := hu.open'
  have ca : ∀ W, Below w.heap.size w W → Calls Tryz.prog 95 #[.agg #[.bool pa0.1, .slice A0 n0 c0]] W (RetR (p.natAbs : Int) N W) := fun W hb => rabs_any (hp.below hb)
  have hq0 := Lib.hid hq
  clear hu hp hq
  obtain ⟨W3, hW3⟩ : ∃ W3, W3 = ((w.alloc (.cells #[.bool pa0.1, .slice A0 n0 c0, .bool pb0.1, .slice B0 m0 d0] 40)).alloc (.cells #[.bool false, .slice none 0 0, .bool false, .slice none 0 0] 40)) := ⟨_, rfl⟩
  have hB : Below w.heap.size w W3 := by rw [hW3]; exact (((Below.refl _ _).alloc (Nat.le_refl _) _).alloc (by simp; try omega) _)
  have HBW := Lib.hid hB
  have HF := Lib.hid (show Four W3 (w.heap.size) (.bool pa0.1) (.slice A0 n0 c0) (.bool pb0.1) (.slice B0 m0 d0) 40 by rw [hW3]; exact (((Four.newAt _ _ _ _ _ _ _ (by simp))).alloc _))
  have HR := Lib.hid (show Four W3 (w.heap.size + 1) (.bool false) (.slice none 0 0) (.bool false) (.slice none 0 0) 40 by rw [hW3]; exact (Four.newAt _ _ _ _ _ _ _ (by simp)))
  clear hB
  go_enter Tryz.func49, Tryz.ntmps49
  go_wp2_with fail
  rw [← hW3]
  clear hW3
  refine Lex.wp_region_lex (fun w' => Four w' w.heap.size (.bool pa0.1) (.slice A0 n0 c0) (.bool pb0.1) (.slice B0 m0 d0) 40) (fun j => j != 6)
    [(0, true), (1, true), (3, true), (4, true), (2, false), (5, false), (6, false)]
    (by kernel_rfl) (by kernel_rfl) (by kernel_rfl) (by kernel_rfl) HF.out ?_
  iterate 4 (refine Lex.lex_take (v := ?_) rfl rfl (by rfl) (fun _ hS => ?_) ?_; rotate_left 1; (focus (have g0_0 := hS.cell0; have g0_1 := hS.cell1; have g0_2 := hS.cell2; have g0_3 := hS.cell3; clear hS; go_simp; with_reducible rfl)); simp only [List.setIfInBounds_toArray, List.set_cons_zero, List.set_cons_succ])
  refine Lex.lex_do rfl ?_
  have hb0 : Below W3.heap.size W3 W3.drew := ⟨rfl, rfl, rfl, Nat.le_refl _, fun _ _ => rfl⟩
  have hw0 : Below w.heap.size w W3.drew := ⟨HBW.out.os, HBW.out.tape, HBW.out.output, HBW.out.size, HBW.out.block⟩
  generalize hV0 : W3.drew = V0 at *
  clear hV0
  have cc := ca V0 hw0
  go_wp2_with fail
  refine cc.mono ?_
  rintro e V1 ⟨v1, rfl, hm1, hn1⟩
  have hb1 := hb0.trans (hn1.mono hb0.size)
  have hw1 := hw0.trans (hn1.mono hw0.size)
  clear cc hb0 hw0 hn1
  go_wp2_with fail
  have E0 := HF.out.below hb1 HF.out.lt
  refine Lex.lexQ_normal (fun _ => E0) ?_
  refine Lex.lex_do rfl ?_
  clear E0
  obtain ⟨p5, A5, n5, c5, rfl⟩ := hm1.agg'
  have hq6 := hq0.out.below hw1
  go_wp2_with fail
  have E0 := HF.out.below hb1 HF.out.lt
  refine Lex.lexQ_normal (fun _ => E0) ?_
  refine Lex.lex_do rfl ?_
  clear E0
  have HR4 := HR.out.below hb1 HR.out.lt
  have r0 := HR4.cell0
  have r1 := HR4.cell1
  have r2 := HR4.cell2
  have r3 := HR4.cell3
  have g0 := HR4.free 0
  have g1 := HR4.free 1
  have g2 := HR4.free 2
  have g3 := HR4.free 3
  have HP := Lib.hid (hm1.storedQ (u0 := .bool p5.1) (u1 := .slice A5 n5 c5) (u2 := .bool pb0.1) (u3 := .slice B0 m0 d0) HR4)
  have HQ := Lib.hid (hq6.storedQ (u0 := .bool p5.1) (u1 := .slice A5 n5 c5) (u2 := .bool pb0.1) (u3 := .slice B0 m0 d0) HR4)
  have HBE := Lib.hid hw1
  clear HR4 hm1 hq6 hw1 hb1
  go_wp2_with fail
  refine Lex.lexQ_normal (fun h => absurd h (by decide)) ?_
  refine Lex.lex_nil ?_
  go_wp2
  refine bodyPost_ret (v := .agg #[.bool p5.1, .slice A5 n5 c5, .bool pb0.1, .slice B0 m0 d0]) (by simp [results, Tryz.results49, go_sem, r0, r1, r2, r3]) rfl ⟨_, rfl, ⟨p5.1, _, pb0.1, _, rfl, HP.out, HQ.out⟩, ?_⟩
  exact (((HBE.out.setCell (by simp; try omega) _).setCell (by simp; try omega) _).setCell (by simp; try omega) _).setCell (by simp; try omega) _

set_option maxRecDepth 100000 in
set_option maxHeartbeats 1600000 in
theorem roff_any (p q p1 q1 : Int) (w : World) (hp : I64 p) (hq : I64 q) (hp1 : I64 p1) (hq1 : I64 q1) :
    Calls Tryz.prog 72 #[.agg #[.int .i64 p, .int .i64 q], .agg #[.int .i64 p1, .int .i64 q1]] w (RetRQ ((p * q1 - p1 * q).natAbs : Int) (q * q1) 12 w) := by
  have ca : ∀ W (_ : Below w.heap.size w W), Calls Tryz.prog 22 #[.agg #[.int .i64 p, .int .i64 q]] W (RetRQ p q 5 W) := fun W _ => of_any' p q W hp hq
  have cb : ∀ W (_ : Below w.heap.size w W), Calls Tryz.prog 22 #[.agg #[.int .i64 p1, .int .i64 q1]] W (RetRQ p1 q1 5 W) := fun W _ => of_any' p1 q1 W hp1 hq1
  have cs : ∀ W (_ : Below w.heap.size w W) u v, IsRQ W u p q 5 → IsRQ W v p1 q1 5 → Calls Tryz.prog 40 #[u, v] W (RetRQ (p * q1 - p1 * q) (q * q1) 12 W) := fun W _ u v h1 h2 => rsubq_any h1 h2 (by omega) (by omega)
  have cx : ∀ W (_ : Below w.heap.size w W) u, IsRQ W u (p * q1 - p1 * q) (q * q1) 12 → Calls Tryz.prog 49 #[u] W (RetRQ ((p * q1 - p1 * q).natAbs : Int) (q * q1) 12 W) := fun W _ u h => rabsq_any h
  clear hp hq hp1 hq1
  obtain ⟨W3, hW3⟩ : ∃ W3, W3 = (((w.alloc (.cells #[.int .i64 p, .int .i64 q] 28)).alloc (.cells #[.int .i64 p1, .int .i64 q1] 28)).alloc (.cells #[.bool false, .slice none 0 0, .bool false, .slice none 0 0] 40)) := ⟨_, rfl⟩
  have hB : Below w.heap.size w W3 := by rw [hW3]; exact ((((Below.refl _ _).alloc (Nat.le_refl _) _).alloc (by simp; try omega) _).alloc (by simp; try omega) _)
  have HBW := Lib.hid hB
  have HF := Lib.hid (show Two W3 (w.heap.size) (.int .i64 p) (.int .i64 q) 28 by rw [hW3]; exact (((((Two.newAt _ _ _ _ _ (by simp))).alloc _)).alloc _))
  have HG := Lib.hid (show Two W3 (w.heap.size + 1) (.int .i64 p1) (.int .i64 q1) 28 by rw [hW3]; exact (((Two.newAt _ _ _ _ _ (by simp))).alloc _))
  have HR := Lib.hid (show Four W3 (w.heap.size + 1 + 1) (.bool false) (.slice none 0 0) (.bool false) (.slice none 0 0) 40 by rw [hW3]; exact (Four.newAt _ _ _ _ _ _ _ (by simp)))
  clear hB
  go_enter Tryz.func72, Tryz.ntmps72
  go_wp2_with fail
  rw [← hW3]
  clear hW3
  refine Lex.wp_region_lex (fun w' => Two w' w.heap.size (.int .i64 p) (.int .i64 q) 28 ∧ Two w' (w.heap.size + 1) (.int .i64 p1) (.int .i64 q1) 28) (fun j => j != 6)
    [(0, true), (2, true), (1, false), (3, false), (4, false), (5, false), (6, false)]
    (by kernel_rfl) (by kernel_rfl) (by kernel_rfl) (by kernel_rfl) ⟨HF.out, HG.out⟩ ?_
  iterate 2 (refine Lex.lex_take (v := ?_) rfl rfl (by rfl) (fun _ hS => ?_) ?_; rotate_left 1; (focus (have g0_0 := hS.1.cell0; have g0_1 := hS.1.cell1; have g1_0 := hS.2.cell0; have g1_1 := hS.2.cell1; clear hS; go_simp; with_reducible rfl)); simp only [List.setIfInBounds_toArray, List.set_cons_zero, List.set_cons_succ])
  refine Lex.lex_do rfl ?_
  have hb0 : Below W3.heap.size W3 W3.drew := ⟨rfl, rfl, rfl, Nat.le_refl _, fun _ _ => rfl⟩
  have hw0 : Below w.heap.size w W3.drew := ⟨HBW.out.os, HBW.out.tape, HBW.out.output, HBW.out.size, HBW.out.block⟩
  generalize hV0 : W3.drew = V0 at *
  clear hV0
  have cc := ca V0 hw0
  go_wp2_with fail
  refine cc.mono ?_
  rintro e V1 ⟨v1, rfl, hm1, hn1⟩
  have hb1 := hb0.trans (hn1.mono hb0.size)
  have hw1 := hw0.trans (hn1.mono hw0.size)
  clear cc hb0 hw0 hn1
  go_wp2_with fail
  have E0 := HF.out.below hb1 HF.out.lt
  have E1 := HG.out.below hb1 HG.out.lt
  refine Lex.lexQ_normal (fun _ => ⟨E0, E1⟩) ?_
  refine Lex.lex_do rfl ?_
  clear E0 E1
  have cc := cb V1 hw1
  go_wp2_with fail
  refine cc.mono ?_
  rintro e V2 ⟨v2, rfl, hm2, hn2⟩
  have hb2 := hb1.trans (hn2.mono hb1.size)
  have hw2 := hw1.trans (hn2.mono hw1.size)
  have hm1 := hm1.below hn2
  clear cc hb1 hw1 hn2
  go_wp2_with fail
  have E0 := HF.out.below hb2 HF.out.lt
  have E1 := HG.out.below hb2 HG.out.lt
  refine Lex.lexQ_normal (fun _ => ⟨E0, E1⟩) ?_
  refine Lex.lex_do rfl ?_
  clear E0 E1
  have cc := cs V2 hw2 _ _ hm1 hm2
  go_wp2_with fail
  refine cc.mono ?_
  rintro e V3 ⟨v3, rfl, hm3, hn3⟩
  have hb3 := hb2.trans (hn3.mono hb2.size)
  have hw3 := hw2.trans (hn3.mono hw2.size)
  clear hm1 hm2
  clear cc hb2 hw2 hn3
  go_wp2_with fail
  have E0 := HF.out.below hb3 HF.out.lt
  have E1 := HG.out.below hb3 HG.out.lt
  refine Lex.lexQ_normal (fun _ => ⟨E0, E1⟩) ?_
  refine Lex.lex_do rfl ?_
  clear E0 E1
  have cc := cx V3 hw3 _ hm3
  go_wp2_with fail
  refine cc.mono ?_
  rintro e V4 ⟨v4, rfl, hm4, hn4⟩
  have hb4 := hb3.trans (hn4.mono hb3.size)
  have hw4 := hw3.trans (hn4.mono hw3.size)
  clear hm3
  clear cc hb3 hw3 hn4
  go_wp2_with fail
  have E0 := HF.out.below hb4 HF.out.lt
  have E1 := HG.out.below hb4 HG.out.lt
  refine Lex.lexQ_normal (fun _ => ⟨E0, E1⟩) ?_
  refine Lex.lex_do rfl ?_
  clear E0 E1
  obtain ⟨p5, A5, n5, c5, p6, A6, n6, c6, rfl, hp5, hq6⟩ := hm4.open'
  have HR4 := HR.out.below hb4 HR.out.lt
  have r0 := HR4.cell0
  have r1 := HR4.cell1
  have r2 := HR4.cell2
  have r3 := HR4.cell3
  have g0 := HR4.free 0
  have g1 := HR4.free 1
  have g2 := HR4.free 2
  have g3 := HR4.free 3
  have HP := Lib.hid (hp5.storedQ (u0 := .bool p5.1) (u1 := .slice A5 n5 c5) (u2 := .bool p6.1) (u3 := .slice A6 n6 c6) HR4)
  have HQ := Lib.hid (hq6.storedQ (u0 := .bool p5.1) (u1 := .slice A5 n5 c5) (u2 := .bool p6.1) (u3 := .slice A6 n6 c6) HR4)
  have HBE := Lib.hid hw4
  clear HR4 hp5 hq6 hw4 hb4
  go_wp2_with fail
  refine Lex.lexQ_normal (fun h => absurd h (by decide)) ?_
  refine Lex.lex_nil ?_
  go_wp2
  refine bodyPost_ret (v := .agg #[.bool p5.1, .slice A5 n5 c5, .bool p6.1, .slice A6 n6 c6]) (by simp [results, Tryz.results72, go_sem, r0, r1, r2, r3]) rfl ⟨_, rfl, ⟨p5.1, _, p6.1, _, rfl, HP.out, HQ.out⟩, ?_⟩
  exact (((HBE.out.setCell (by simp; try omega) _).setCell (by simp; try omega) _).setCell (by simp; try omega) _).setCell (by simp; try omega) _

end Go.Proofs.YtklngjjokbhfpaaGreat

namespace Go.Proofs.YtklngjjokbhfpaaGreat
open Go.RowKit

/-- Which of two fractions is nearer to p/q: below 0 the first one. -/
def nearS (p q an ad bn bd : Int) : Int := sgn (((an * q - p * ad).natAbs : Int) * (bd * q) - ((bn * q - p * bd).natAbs : Int) * (ad * q))
def nearR (p q an ad bn bd : Int) : Int × Int := if nearS p q an ad bn bd < 0 ∨ nearS p q an ad bn bd = 0 ∧ ad < bd ∨ nearS p q an ad bn bd = 0 ∧ ad = bd ∧ an < bn then (an, ad) else (bn, bd)

theorem Four.setOther {w : World} {B : Nat} {a b c d : Value} {t : TypeId} (h : Four w B a b c d t) (p : Addr) (x : Value) (hp : B ≠ p.block) : Four (w.setCell p x) B a b c d t := (Below.heap_setCell w p x B hp).trans h
theorem Four.keep4 {w : World} {B R : Nat} {a b c d u0 u1 u2 u3 : Value} {t : TypeId} (h : Four w B a b c d t) (hp : B ≠ R) : Four ((((w.setCell ⟨R, 0, none⟩ u0).setCell ⟨R, 1, none⟩ u1).setCell ⟨R, 2, none⟩ u2).setCell ⟨R, 3, none⟩ u3) B a b c d t :=
  (((h.setOther _ _ hp).setOther _ _ hp).setOther _ _ hp).setOther _ _ hp
theorem Four.set4 {w : World} {B : Nat} {a b c d : Value} {t : TypeId} (h : Four w B a b c d t) (u0 u1 u2 u3 : Value) : Four ((((w.setCell ⟨B, 0, none⟩ u0).setCell ⟨B, 1, none⟩ u1).setCell ⟨B, 2, none⟩ u2).setCell ⟨B, 3, none⟩ u3) B u0 u1 u2 u3 t := by
  unfold Four World.setCell at *
  simp only [Array.getElem?_modify, if_true, h]
  rfl
theorem IsQ.stored4 {w : World} {v : Value} {p q : Int} {N R : Nat} {u0 u1 u2 u3 : Value} {t : TypeId} (h : IsQ w v p q N) (hR : Four w R (.bool false) (.slice none 0 0) (.bool false) (.slice none 0 0) t) : IsQ ((((w.setCell ⟨R, 0, none⟩ u0).setCell ⟨R, 1, none⟩ u1).setCell ⟨R, 2, none⟩ u2).setCell ⟨R, 3, none⟩ u3) v p q N := by
  obtain ⟨na, a, nb, b, rfl, h1, h2⟩ := h
  exact ⟨na, a, nb, b, rfl, h1.storedF hR, h2.storedF hR⟩

set_option maxRecDepth 100000 in
set_option maxHeartbeats 3200000 in
theorem nearer_any (p q an ad bn bd : Int) (w : World) (h0 : I64 p) (h1 : I64 q) (h2 : I64 an) (h3 : I64 ad) (h4 : I64 bn) (h5 : I64 bd) (had : ad ≠ 0) :
    Calls Tryz.prog 69 #[.agg #[.int .i64 p, .int .i64 q], .agg #[.int .i64 an, .int .i64 ad], .agg #[.int .i64 bn, .int .i64 bd]] w (RetV (.agg #[.int .i64 (nearR p q an ad bn bd).1, .int .i64 (nearR p q an ad bn bd).2]) w) := by
  have ca : ∀ W (_ : Below w.heap.size w W), Calls Tryz.prog 77 #[.agg #[.int .i64 an, .int .i64 ad]] W (RetQ an ad 2 W) := fun W _ => from_any an ad W h2 h3
  have cb : ∀ W (_ : Below w.heap.size w W), Calls Tryz.prog 77 #[.agg #[.int .i64 bn, .int .i64 bd]] W (RetQ bn bd 2 W) := fun W _ => from_any bn bd W h4 h5
  have cx : ∀ W (_ : Below w.heap.size w W), Calls Tryz.prog 77 #[.agg #[.int .i64 p, .int .i64 q]] W (RetQ p q 2 W) := fun W _ => from_any p q W h0 h1
  have csa : ∀ W (_ : Below w.heap.size w W) u v, IsQ W u an ad 2 → IsQ W v p q 2 → Calls Tryz.prog 78 #[u, v] W (RetQ (an * q - p * ad) (ad * q) 5 W) := fun W _ u v g1 g2 => qsub_any g1 g2 (by omega) (by omega)
  have csb : ∀ W (_ : Below w.heap.size w W) u v, IsQ W u bn bd 2 → IsQ W v p q 2 → Calls Tryz.prog 78 #[u, v] W (RetQ (bn * q - p * bd) (bd * q) 5 W) := fun W _ u v g1 g2 => qsub_any g1 g2 (by omega) (by omega)
  have cxa : ∀ W (_ : Below w.heap.size w W) u, IsQ W u (an * q - p * ad) (ad * q) 5 → Calls Tryz.prog 112 #[u] W (RetQ ((an * q - p * ad).natAbs : Int) (ad * q) 5 W) := fun W _ u g => qabs_any g (by omega)
  have cxb : ∀ W (_ : Below w.heap.size w W) u, IsQ W u (bn * q - p * bd) (bd * q) 5 → Calls Tryz.prog 112 #[u] W (RetQ ((bn * q - p * bd).natAbs : Int) (bd * q) 5 W) := fun W _ u g => qabs_any g (by omega)
  have cc : ∀ W (_ : Below w.heap.size w W) u v, IsQ W u ((an * q - p * ad).natAbs : Int) (ad * q) 5 → IsQ W v ((bn * q - p * bd).natAbs : Int) (bd * q) 5 → Calls Tryz.prog 113 #[u, v] W (RetW (.int .i64 (nearS p q an ad bn bd)) W) := fun W _ u v g1 g2 => (rcmp_any g1 g2 (by omega) (by omega)).mono fun e w' h => RetW.of h
  obtain ⟨sg, hsg⟩ : ∃ sg, sg = nearS p q an ad bn bd := ⟨_, rfl⟩
  obtain ⟨yn, hyn⟩ : ∃ yn, yn = (nearR p q an ad bn bd).1 := ⟨_, rfl⟩
  obtain ⟨yd, hyd⟩ : ∃ yd, yd = (nearR p q an ad bn bd).2 := ⟨_, rfl⟩
  have HC := Lib.hid (show (sg < 0 ∧ yn = an ∧ yd = ad) ∨ (sg = 0 ∧ ad < bd ∧ yn = an ∧ yd = ad) ∨ (sg = 0 ∧ ¬ ad < bd ∧ ad = bd ∧ an < bn ∧ yn = an ∧ yd = ad) ∨ (sg = 0 ∧ ¬ ad < bd ∧ ad = bd ∧ ¬ an < bn ∧ yn = bn ∧ yd = bd) ∨ (sg = 0 ∧ ¬ ad < bd ∧ ¬ ad = bd ∧ yn = bn ∧ yd = bd) ∨ (0 < sg ∧ yn = bn ∧ yd = bd) by
    rw [hyn, hyd]
    unfold nearR
    rw [← hsg]
    by_cases c : sg < 0 ∨ sg = 0 ∧ ad < bd ∨ sg = 0 ∧ ad = bd ∧ an < bn
    · simp only [if_pos c, and_true]; clear hyn hyd hsg; omega
    · simp only [if_neg c, and_true]; clear hyn hyd hsg; omega)
  rw [← hsg] at cc
  rw [← hyn, ← hyd]
  have had0 : (ad == 0) = false := by simpa using had
  clear h0 h1 h2 h3 h4 h5 had hsg hyn hyd
  obtain ⟨W3, hW3⟩ : ∃ W3, W3 = ((((w.alloc (.cells #[.int .i64 p, .int .i64 q] 28)).alloc (.cells #[.int .i64 an, .int .i64 ad] 28)).alloc (.cells #[.int .i64 bn, .int .i64 bd] 28)).alloc (.cells #[.int .i64 0, .int .i64 0] 28)) := ⟨_, rfl⟩
  have hB : Below w.heap.size w W3 := by rw [hW3]; exact (((((Below.refl _ _).alloc (Nat.le_refl _) _).alloc (by simp; try omega) _).alloc (by simp; try omega) _).alloc (by simp; try omega) _)
  have HBW := Lib.hid hB
  have HF := Lib.hid (show Two W3 (w.heap.size) (.int .i64 p) (.int .i64 q) 28 by rw [hW3]; exact (((((((Two.newAt _ _ _ _ _ (by simp))).alloc _)).alloc _)).alloc _))
  have HG := Lib.hid (show Two W3 (w.heap.size + 1) (.int .i64 an) (.int .i64 ad) 28 by rw [hW3]; exact (((((Two.newAt _ _ _ _ _ (by simp))).alloc _)).alloc _))
  have HH := Lib.hid (show Two W3 (w.heap.size + 1 + 1) (.int .i64 bn) (.int .i64 bd) 28 by rw [hW3]; exact (((Two.newAt _ _ _ _ _ (by simp))).alloc _))
  have HR := Lib.hid (show Two W3 (w.heap.size + 1 + 1 + 1) (.int .i64 0) (.int .i64 0) 28 by rw [hW3]; exact (Two.newAt _ _ _ _ _ (by simp)))
  clear hB
  go_enter Tryz.func69, Tryz.ntmps69
  go_upto_region 1 with fail
  rw [← hW3]
  clear hW3
  have k0 := HG.out.cell1
  go_upto_region 3 with fail
  clear k0
  refine Lex.wp_region_mix (fun w' => Two w' w.heap.size (.int .i64 p) (.int .i64 q) 28 ∧ Two w' (w.heap.size + 1) (.int .i64 an) (.int .i64 ad) 28 ∧ Two w' (w.heap.size + 1 + 1) (.int .i64 bn) (.int .i64 bd) 28)
    [(0, 14), (1, 15), (2, 16), (3, 17), (4, 18), (5, 19), (6, 7)] (fun j => j == 0 || j == 2) (fun j => j == 6) [(7, false)]
    (fun i v w' => match i with | 0 => v = .agg #[.int .i64 an, .int .i64 ad] | 1 => IsQ w' v an ad 2 | 2 => v = .agg #[.int .i64 p, .int .i64 q] | 3 => IsQ w' v p q 2 | 4 => IsQ w' v (an * q - p * ad) (ad * q) 5 | 5 => IsQ w' v ((an * q - p * ad).natAbs : Int) (ad * q) 5 | 6 => ∃ B, v = .pointer (some ⟨B, 0, none⟩) ∧ W3.heap.size ≤ B ∧ Four w' B (.bool false) (.slice none 0 0) (.bool false) (.slice none 0 0) 98 | _ => False)
    (by kernel_rfl) (by kernel_rfl) (by kernel_rfl) ⟨HF.out, HG.out, HH.out⟩ (fun w1 w2 hS hb => ⟨hS.1.below hb hS.1.lt, hS.2.1.below hb hS.2.1.lt, hS.2.2.below hb hS.2.2.lt⟩) ?_ ?_ ?_
  · refine Lex.all_cons ?_ (Lex.all_cons ?_ (Lex.all_cons ?_ (Lex.all_cons ?_ (Lex.all_cons ?_ (Lex.all_cons ?_ (Lex.all_cons ?_ (Lex.all_nil)))))))
    · exact fun v w1 w2 h _ => h
    · exact fun v w1 w2 h hb => IsQ.below h hb
    · exact fun v w1 w2 h _ => h
    · exact fun v w1 w2 h hb => IsQ.below h hb
    · exact fun v w1 w2 h hb => IsQ.below h hb
    · exact fun v w1 w2 h hb => IsQ.below h hb
    · exact fun v w1 w2 ⟨B, hv, hl, hT⟩ hb => ⟨B, hv, hl, hT.below hb hT.lt⟩
  · refine Lex.all_cons ?_ (Lex.all_cons ?_ (Lex.all_cons ?_ (Lex.all_cons ?_ (Lex.all_cons ?_ (Lex.all_cons ?_ (Lex.all_cons ?_ (Lex.all_nil)))))))
    · refine Lex.ob_eager rfl rfl (fun σ w1 hS hB hg => ⟨.agg #[.int .i64 an, .int .i64 ad], rfl, fun w2 hS => ?_, rfl⟩)
      clear hg
      simp only [Lex.full, Act.put, List.setIfInBounds_toArray, List.set_cons_zero, List.set_cons_succ]
      have f0_0 := hS.1.cell0
      have f0_1 := hS.1.cell1
      have f1_0 := hS.2.1.cell0
      have f1_1 := hS.2.1.cell1
      have f2_0 := hS.2.2.cell0
      have f2_1 := hS.2.2.cell1
      clear hS
      go_simp
      all_goals with_reducible rfl
    · refine Lex.ob_step rfl rfl rfl (fun σ w1 hS hB hg K hK => ?_)
      have HK := Lib.hid hK
      clear hK
      have g0 : (σ 0) = .agg #[.int .i64 an, .int .i64 ad] := hg (0, 14) (by simp) (by kernel_rfl)
      clear hg
      simp only [Lex.full, Act.put, List.setIfInBounds_toArray, List.set_cons_zero, List.set_cons_succ]
      simp only [g0]
      have hw1 : Below w.heap.size w w1 := HBW.out.drew.trans (hB.mono HBW.out.size)
      have cc := ca w1 hw1
      go_wp2_with fail
      refine cc.mono ?_
      rintro e w2 ⟨v1, rfl, hm, hn⟩
      clear cc
      go_wp2_with fail
      exact HK.out _ _ ⟨rfl, hn, hm, fun h => nomatch h⟩
    · refine Lex.ob_eager rfl rfl (fun σ w1 hS hB hg => ⟨.agg #[.int .i64 p, .int .i64 q], rfl, fun w2 hS => ?_, rfl⟩)
      clear hg
      simp only [Lex.full, Act.put, List.setIfInBounds_toArray, List.set_cons_zero, List.set_cons_succ]
      have f0_0 := hS.1.cell0
      have f0_1 := hS.1.cell1
      have f1_0 := hS.2.1.cell0
      have f1_1 := hS.2.1.cell1
      have f2_0 := hS.2.2.cell0
      have f2_1 := hS.2.2.cell1
      clear hS
      go_simp
      all_goals with_reducible rfl
    · refine Lex.ob_step rfl rfl rfl (fun σ w1 hS hB hg K hK => ?_)
      have HK := Lib.hid hK
      clear hK
      have g2 : (σ 2) = .agg #[.int .i64 p, .int .i64 q] := hg (2, 16) (by simp) (by kernel_rfl)
      clear hg
      simp only [Lex.full, Act.put, List.setIfInBounds_toArray, List.set_cons_zero, List.set_cons_succ]
      simp only [g2]
      have hw1 : Below w.heap.size w w1 := HBW.out.drew.trans (hB.mono HBW.out.size)
      have cc := cx w1 hw1
      go_wp2_with fail
      refine cc.mono ?_
      rintro e w2 ⟨v1, rfl, hm, hn⟩
      clear cc
      go_wp2_with fail
      exact HK.out _ _ ⟨rfl, hn, hm, fun h => nomatch h⟩
    · refine Lex.ob_step rfl rfl rfl (fun σ w1 hS hB hg K hK => ?_)
      have HK := Lib.hid hK
      clear hK
      have g1 : IsQ w1 (σ 1) an ad 2 := hg (1, 15) (by simp) (by kernel_rfl)
      have g3 : IsQ w1 (σ 3) p q 2 := hg (3, 17) (by simp) (by kernel_rfl)
      clear hg
      simp only [Lex.full, Act.put, List.setIfInBounds_toArray, List.set_cons_zero, List.set_cons_succ]
      have hw1 : Below w.heap.size w w1 := HBW.out.drew.trans (hB.mono HBW.out.size)
      have cc := csa w1 hw1 _ _ g1 g3
      go_wp2_with fail
      refine cc.mono ?_
      rintro e w2 ⟨v1, rfl, hm, hn⟩
      clear cc
      go_wp2_with fail
      exact HK.out _ _ ⟨rfl, hn, hm, fun h => nomatch h⟩
    · refine Lex.ob_step rfl rfl rfl (fun σ w1 hS hB hg K hK => ?_)
      have HK := Lib.hid hK
      clear hK
      have g4 : IsQ w1 (σ 4) (an * q - p * ad) (ad * q) 5 := hg (4, 18) (by simp) (by kernel_rfl)
      clear hg
      simp only [Lex.full, Act.put, List.setIfInBounds_toArray, List.set_cons_zero, List.set_cons_succ]
      have hw1 : Below w.heap.size w w1 := HBW.out.drew.trans (hB.mono HBW.out.size)
      have cc := cxa w1 hw1 _ g4
      go_wp2_with fail
      refine cc.mono ?_
      rintro e w2 ⟨v1, rfl, hm, hn⟩
      clear cc
      go_wp2_with fail
      exact HK.out _ _ ⟨rfl, hn, hm, fun h => nomatch h⟩
    · refine Lex.ob_step rfl rfl rfl (fun σ w1 hS hB hg K hK => ?_)
      have HK := Lib.hid hK
      clear hK
      clear hg
      simp only [Lex.full, Act.put, List.setIfInBounds_toArray, List.set_cons_zero, List.set_cons_succ]
      go_wp2_with fail
      refine HK.out _ _ ⟨rfl, (Below.refl _ _).alloc (Nat.le_refl _) _, ⟨w1.heap.size, rfl, show W3.heap.size ≤ _ from hB.size, Four.newAt _ _ _ _ _ _ _ rfl⟩, fun _ => ?_⟩
      refine Lex.all_cons ?_ (Lex.all_cons ?_ (Lex.all_cons ?_ (Lex.all_cons ?_ (Lex.all_cons ?_ (Lex.all_cons ?_ (Lex.all_cons ?_ (Lex.all_nil)))))))
      · intro u h; cases h
      · intro u h; cases h
      · intro u h; cases h
      · intro u h; cases h
      · intro u h; cases h
      · intro u h; cases h
      · rintro u _ ⟨B, rfl, _, hT⟩ he; have := hT.lt; have he : Value.pointer (some ⟨B, 0, none⟩) = .pointer (some ⟨w1.heap.size, 0, none⟩) := he; injection he with he; injection he with he; injection he with he; omega
  · intro σ V hS hB hg hd
    have e0 : (σ 0) = .agg #[.int .i64 an, .int .i64 ad] := hg (0, 14) (by simp)
    have e1 : IsQ V (σ 1) an ad 2 := hg (1, 15) (by simp)
    have e2 : (σ 2) = .agg #[.int .i64 p, .int .i64 q] := hg (2, 16) (by simp)
    have e3 : IsQ V (σ 3) p q 2 := hg (3, 17) (by simp)
    have e4 : IsQ V (σ 4) (an * q - p * ad) (ad * q) 5 := hg (4, 18) (by simp)
    have e5 : IsQ V (σ 5) ((an * q - p * ad).natAbs : Int) (ad * q) 5 := hg (5, 19) (by simp)
    have e6 : ∃ B, (σ 6) = .pointer (some ⟨B, 0, none⟩) ∧ W3.heap.size ≤ B ∧ Four V B (.bool false) (.slice none 0 0) (.bool false) (.slice none 0 0) 98 := hg (6, 7) (by simp)
    clear hg hd
    simp only [Lex.full, Act.put, List.setIfInBounds_toArray, List.set_cons_zero, List.set_cons_succ]
    generalize σ 0 = sa0 at *
    generalize σ 1 = sa1 at *
    generalize σ 2 = sa2 at *
    generalize σ 3 = sa3 at *
    generalize σ 4 = sa4 at *
    generalize σ 5 = sa5 at *
    generalize σ 6 = sa6 at *
    clear σ
    subst e0
    clear e1
    subst e2
    clear e3
    clear e4
    obtain ⟨pa5, Aa5, na5, ca5, pa6, Aa6, na6, ca6, rfl, hPa, hQa⟩ := (e5).open2
    obtain ⟨Ba6, rfl, la6, T6⟩ := e6
    have HTa6 := Lib.hid T6
    clear T6
    have HBm := Lib.hid (show Below w.heap.size w V from HBW.out.drew.trans (hB.mono HBW.out.size))
    have HBb := Lib.hid (show Below W3.heap.size W3 V from ⟨hB.os, hB.tape, hB.output, hB.size, hB.block⟩)
    have HSm := Lib.hid hS
    clear hB hS
    have lW := HBW.out.size
    refine Lex.lex_do rfl ?_
    have r0 := HTa6.out.cell0
    have g0 := HTa6.out.free 0
    have r1 := HTa6.out.cell1
    have g1 := HTa6.out.free 1
    have r2 := HTa6.out.cell2
    have g2 := HTa6.out.free 2
    have r3 := HTa6.out.cell3
    have g3 := HTa6.out.free 3
    obtain ⟨V1, hV1⟩ : ∃ V1, V1 = ((((V.setCell ⟨Ba6, 0, none⟩ (.bool pa5.1)).setCell ⟨Ba6, 1, none⟩ (.slice Aa5 na5 ca5)).setCell ⟨Ba6, 2, none⟩ (.bool pa6.1)).setCell ⟨Ba6, 3, none⟩ (.slice Aa6 na6 ca6)) := ⟨_, rfl⟩
    have HV1 := Lib.hid hV1
    clear hV1
    have HPa := Lib.hid hPa
    have HQa := Lib.hid hQa
    clear hPa hQa
    go_wp2_with fail
    rw [← HV1.out]
    clear r0 r1 r2 r3 g0 g1 g2 g3
    have lF := HF.out.lt
    have lG := HG.out.lt
    have lH := HH.out.lt
    have lR := HR.out.lt
    have YF := Lib.hid (show Two V1 _ _ _ _ by rw [HV1.out]; exact ((((HSm.out.1.setOther ⟨Ba6, 0, none⟩ _ (by dsimp only; omega)).setOther ⟨Ba6, 1, none⟩ _ (by dsimp only; omega)).setOther ⟨Ba6, 2, none⟩ _ (by dsimp only; omega)).setOther ⟨Ba6, 3, none⟩ _ (by dsimp only; omega)))
    have YG := Lib.hid (show Two V1 _ _ _ _ by rw [HV1.out]; exact ((((HSm.out.2.1.setOther ⟨Ba6, 0, none⟩ _ (by dsimp only; omega)).setOther ⟨Ba6, 1, none⟩ _ (by dsimp only; omega)).setOther ⟨Ba6, 2, none⟩ _ (by dsimp only; omega)).setOther ⟨Ba6, 3, none⟩ _ (by dsimp only; omega)))
    have YH := Lib.hid (show Two V1 _ _ _ _ by rw [HV1.out]; exact ((((HSm.out.2.2.setOther ⟨Ba6, 0, none⟩ _ (by dsimp only; omega)).setOther ⟨Ba6, 1, none⟩ _ (by dsimp only; omega)).setOther ⟨Ba6, 2, none⟩ _ (by dsimp only; omega)).setOther ⟨Ba6, 3, none⟩ _ (by dsimp only; omega)))
    have YR := Lib.hid (show Two V1 _ _ _ _ by rw [HV1.out]; exact (((((HR.out.below HBb.out HR.out.lt).setOther ⟨Ba6, 0, none⟩ _ (by dsimp only; omega)).setOther ⟨Ba6, 1, none⟩ _ (by dsimp only; omega)).setOther ⟨Ba6, 2, none⟩ _ (by dsimp only; omega)).setOther ⟨Ba6, 3, none⟩ _ (by dsimp only; omega)))
    have HIa := Lib.hid (show IsQ V1 (.agg #[.bool pa5.1, .slice Aa5 na5 ca5, .bool pa6.1, .slice Aa6 na6 ca6]) _ _ _ by rw [HV1.out]; exact ⟨pa5.1, _, pa6.1, _, rfl, HPa.out.storedF HTa6.out, HQa.out.storedF HTa6.out⟩)
    have HNa := Lib.hid (show Four V1 Ba6 (.bool pa5.1) (.slice Aa5 na5 ca5) (.bool pa6.1) (.slice Aa6 na6 ca6) 98 by rw [HV1.out]; exact HTa6.out.set4 _ _ _ _)
    have HBV1 := Lib.hid (show Below w.heap.size w V1 by rw [HV1.out]; exact (((HBm.out.setCell (by dsimp only; omega) _).setCell (by dsimp only; omega) _).setCell (by dsimp only; omega) _).setCell (by dsimp only; omega) _)
    refine Lex.lexQ_normal (fun _ => ⟨YF.out, YG.out, YH.out⟩) ?_
    refine Lex.lex_nil ?_
    clear HV1 HBm HBb HSm HTa6 HPa HQa HF HG HH HR HBW ca csa cxa
    go_upto_region 4 with fail
    refine Lex.wp_region_mix (fun w' => Two w' w.heap.size (.int .i64 p) (.int .i64 q) 28 ∧ Two w' (w.heap.size + 1) (.int .i64 an) (.int .i64 ad) 28 ∧ Two w' (w.heap.size + 1 + 1) (.int .i64 bn) (.int .i64 bd) 28)
      [(0, 20), (1, 21), (2, 22), (3, 23), (4, 24), (5, 25), (6, 8)] (fun j => j == 0 || j == 2) (fun j => j == 6) [(7, false)]
      (fun i v w' => match i with | 0 => v = .agg #[.int .i64 bn, .int .i64 bd] | 1 => IsQ w' v bn bd 2 | 2 => v = .agg #[.int .i64 p, .int .i64 q] | 3 => IsQ w' v p q 2 | 4 => IsQ w' v (bn * q - p * bd) (bd * q) 5 | 5 => IsQ w' v ((bn * q - p * bd).natAbs : Int) (bd * q) 5 | 6 => ∃ B, v = .pointer (some ⟨B, 0, none⟩) ∧ V1.heap.size ≤ B ∧ Four w' B (.bool false) (.slice none 0 0) (.bool false) (.slice none 0 0) 98 | _ => False)
      (by kernel_rfl) (by kernel_rfl) (by kernel_rfl) ⟨YF.out, YG.out, YH.out⟩ (fun w1 w2 hS hb => ⟨hS.1.below hb hS.1.lt, hS.2.1.below hb hS.2.1.lt, hS.2.2.below hb hS.2.2.lt⟩) ?_ ?_ ?_
    · refine Lex.all_cons ?_ (Lex.all_cons ?_ (Lex.all_cons ?_ (Lex.all_cons ?_ (Lex.all_cons ?_ (Lex.all_cons ?_ (Lex.all_cons ?_ (Lex.all_nil)))))))
      · exact fun v w1 w2 h _ => h
      · exact fun v w1 w2 h hb => IsQ.below h hb
      · exact fun v w1 w2 h _ => h
      · exact fun v w1 w2 h hb => IsQ.below h hb
      · exact fun v w1 w2 h hb => IsQ.below h hb
      · exact fun v w1 w2 h hb => IsQ.below h hb
      · exact fun v w1 w2 ⟨B, hv, hl, hT⟩ hb => ⟨B, hv, hl, hT.below hb hT.lt⟩
    · refine Lex.all_cons ?_ (Lex.all_cons ?_ (Lex.all_cons ?_ (Lex.all_cons ?_ (Lex.all_cons ?_ (Lex.all_cons ?_ (Lex.all_cons ?_ (Lex.all_nil)))))))
      · refine Lex.ob_eager rfl rfl (fun σ w1 hS hB hg => ⟨.agg #[.int .i64 bn, .int .i64 bd], rfl, fun w2 hS => ?_, rfl⟩)
        clear hg
        simp only [Lex.full, Act.put, List.setIfInBounds_toArray, List.set_cons_zero, List.set_cons_succ]
        have f0_0 := hS.1.cell0
        have f0_1 := hS.1.cell1
        have f1_0 := hS.2.1.cell0
        have f1_1 := hS.2.1.cell1
        have f2_0 := hS.2.2.cell0
        have f2_1 := hS.2.2.cell1
        clear hS
        go_simp
        all_goals with_reducible rfl
      · refine Lex.ob_step rfl rfl rfl (fun σ w1 hS hB hg K hK => ?_)
        have HK := Lib.hid hK
        clear hK
        have g0 : (σ 0) = .agg #[.int .i64 bn, .int .i64 bd] := hg (0, 20) (by simp) (by kernel_rfl)
        clear hg
        simp only [Lex.full, Act.put, List.setIfInBounds_toArray, List.set_cons_zero, List.set_cons_succ]
        simp only [g0]
        have hw1 : Below w.heap.size w w1 := HBV1.out.drew.trans (hB.mono HBV1.out.size)
        have cc := cb w1 hw1
        go_wp2_with fail
        refine cc.mono ?_
        rintro e w2 ⟨v1, rfl, hm, hn⟩
        clear cc
        go_wp2_with fail
        exact HK.out _ _ ⟨rfl, hn, hm, fun h => nomatch h⟩
      · refine Lex.ob_eager rfl rfl (fun σ w1 hS hB hg => ⟨.agg #[.int .i64 p, .int .i64 q], rfl, fun w2 hS => ?_, rfl⟩)
        clear hg
        simp only [Lex.full, Act.put, List.setIfInBounds_toArray, List.set_cons_zero, List.set_cons_succ]
        have f0_0 := hS.1.cell0
        have f0_1 := hS.1.cell1
        have f1_0 := hS.2.1.cell0
        have f1_1 := hS.2.1.cell1
        have f2_0 := hS.2.2.cell0
        have f2_1 := hS.2.2.cell1
        clear hS
        go_simp
        all_goals with_reducible rfl
      · refine Lex.ob_step rfl rfl rfl (fun σ w1 hS hB hg K hK => ?_)
        have HK := Lib.hid hK
        clear hK
        have g2 : (σ 2) = .agg #[.int .i64 p, .int .i64 q] := hg (2, 22) (by simp) (by kernel_rfl)
        clear hg
        simp only [Lex.full, Act.put, List.setIfInBounds_toArray, List.set_cons_zero, List.set_cons_succ]
        simp only [g2]
        have hw1 : Below w.heap.size w w1 := HBV1.out.drew.trans (hB.mono HBV1.out.size)
        have cc := cx w1 hw1
        go_wp2_with fail
        refine cc.mono ?_
        rintro e w2 ⟨v1, rfl, hm, hn⟩
        clear cc
        go_wp2_with fail
        exact HK.out _ _ ⟨rfl, hn, hm, fun h => nomatch h⟩
      · refine Lex.ob_step rfl rfl rfl (fun σ w1 hS hB hg K hK => ?_)
        have HK := Lib.hid hK
        clear hK
        have g1 : IsQ w1 (σ 1) bn bd 2 := hg (1, 21) (by simp) (by kernel_rfl)
        have g3 : IsQ w1 (σ 3) p q 2 := hg (3, 23) (by simp) (by kernel_rfl)
        clear hg
        simp only [Lex.full, Act.put, List.setIfInBounds_toArray, List.set_cons_zero, List.set_cons_succ]
        have hw1 : Below w.heap.size w w1 := HBV1.out.drew.trans (hB.mono HBV1.out.size)
        have cc := csb w1 hw1 _ _ g1 g3
        go_wp2_with fail
        refine cc.mono ?_
        rintro e w2 ⟨v1, rfl, hm, hn⟩
        clear cc
        go_wp2_with fail
        exact HK.out _ _ ⟨rfl, hn, hm, fun h => nomatch h⟩
      · refine Lex.ob_step rfl rfl rfl (fun σ w1 hS hB hg K hK => ?_)
        have HK := Lib.hid hK
        clear hK
        have g4 : IsQ w1 (σ 4) (bn * q - p * bd) (bd * q) 5 := hg (4, 24) (by simp) (by kernel_rfl)
        clear hg
        simp only [Lex.full, Act.put, List.setIfInBounds_toArray, List.set_cons_zero, List.set_cons_succ]
        have hw1 : Below w.heap.size w w1 := HBV1.out.drew.trans (hB.mono HBV1.out.size)
        have cc := cxb w1 hw1 _ g4
        go_wp2_with fail
        refine cc.mono ?_
        rintro e w2 ⟨v1, rfl, hm, hn⟩
        clear cc
        go_wp2_with fail
        exact HK.out _ _ ⟨rfl, hn, hm, fun h => nomatch h⟩
      · refine Lex.ob_step rfl rfl rfl (fun σ w1 hS hB hg K hK => ?_)
        have HK := Lib.hid hK
        clear hK
        clear hg
        simp only [Lex.full, Act.put, List.setIfInBounds_toArray, List.set_cons_zero, List.set_cons_succ]
        go_wp2_with fail
        refine HK.out _ _ ⟨rfl, (Below.refl _ _).alloc (Nat.le_refl _) _, ⟨w1.heap.size, rfl, show V1.heap.size ≤ _ from hB.size, Four.newAt _ _ _ _ _ _ _ rfl⟩, fun _ => ?_⟩
        refine Lex.all_cons ?_ (Lex.all_cons ?_ (Lex.all_cons ?_ (Lex.all_cons ?_ (Lex.all_cons ?_ (Lex.all_cons ?_ (Lex.all_cons ?_ (Lex.all_nil)))))))
        · intro u h; cases h
        · intro u h; cases h
        · intro u h; cases h
        · intro u h; cases h
        · intro u h; cases h
        · intro u h; cases h
        · rintro u _ ⟨B, rfl, _, hT⟩ he; have := hT.lt; have he : Value.pointer (some ⟨B, 0, none⟩) = .pointer (some ⟨w1.heap.size, 0, none⟩) := he; injection he with he; injection he with he; injection he with he; omega
    · intro σ U hS hB hg hd
      have e0 : (σ 0) = .agg #[.int .i64 bn, .int .i64 bd] := hg (0, 20) (by simp)
      have e1 : IsQ U (σ 1) bn bd 2 := hg (1, 21) (by simp)
      have e2 : (σ 2) = .agg #[.int .i64 p, .int .i64 q] := hg (2, 22) (by simp)
      have e3 : IsQ U (σ 3) p q 2 := hg (3, 23) (by simp)
      have e4 : IsQ U (σ 4) (bn * q - p * bd) (bd * q) 5 := hg (4, 24) (by simp)
      have e5 : IsQ U (σ 5) ((bn * q - p * bd).natAbs : Int) (bd * q) 5 := hg (5, 25) (by simp)
      have e6 : ∃ B, (σ 6) = .pointer (some ⟨B, 0, none⟩) ∧ V1.heap.size ≤ B ∧ Four U B (.bool false) (.slice none 0 0) (.bool false) (.slice none 0 0) 98 := hg (6, 8) (by simp)
      clear hg hd
      simp only [Lex.full, Act.put, List.setIfInBounds_toArray, List.set_cons_zero, List.set_cons_succ]
      generalize σ 0 = sb0 at *
      generalize σ 1 = sb1 at *
      generalize σ 2 = sb2 at *
      generalize σ 3 = sb3 at *
      generalize σ 4 = sb4 at *
      generalize σ 5 = sb5 at *
      generalize σ 6 = sb6 at *
      clear σ
      subst e0
      clear e1
      subst e2
      clear e3
      clear e4
      obtain ⟨pb5, Ab5, nb5, cb5, pb6, Ab6, nb6, cb6, rfl, hPb, hQb⟩ := (e5).open2
      obtain ⟨Bb6, rfl, lb6, T6⟩ := e6
      have HTb6 := Lib.hid T6
      clear T6
      have HBm := Lib.hid (show Below w.heap.size w U from HBV1.out.drew.trans (hB.mono HBV1.out.size))
      have HBb := Lib.hid (show Below V1.heap.size V1 U from ⟨hB.os, hB.tape, hB.output, hB.size, hB.block⟩)
      have HSm := Lib.hid hS
      clear hB hS
      refine Lex.lex_do rfl ?_
      have r0 := HTb6.out.cell0
      have g0 := HTb6.out.free 0
      have r1 := HTb6.out.cell1
      have g1 := HTb6.out.free 1
      have r2 := HTb6.out.cell2
      have g2 := HTb6.out.free 2
      have r3 := HTb6.out.cell3
      have g3 := HTb6.out.free 3
      obtain ⟨U1, hV1⟩ : ∃ U1, U1 = ((((U.setCell ⟨Bb6, 0, none⟩ (.bool pb5.1)).setCell ⟨Bb6, 1, none⟩ (.slice Ab5 nb5 cb5)).setCell ⟨Bb6, 2, none⟩ (.bool pb6.1)).setCell ⟨Bb6, 3, none⟩ (.slice Ab6 nb6 cb6)) := ⟨_, rfl⟩
      have HV1 := Lib.hid hV1
      clear hV1
      have HPb := Lib.hid hPb
      have HQb := Lib.hid hQb
      clear hPb hQb
      go_wp2_with fail
      rw [← HV1.out]
      clear r0 r1 r2 r3 g0 g1 g2 g3
      have lF1 := YF.out.lt
      have lG1 := YG.out.lt
      have lH1 := YH.out.lt
      have lR1 := YR.out.lt
      have YF1 := Lib.hid (show Two U1 _ _ _ _ by rw [HV1.out]; exact ((((HSm.out.1.setOther ⟨Bb6, 0, none⟩ _ (by dsimp only; omega)).setOther ⟨Bb6, 1, none⟩ _ (by dsimp only; omega)).setOther ⟨Bb6, 2, none⟩ _ (by dsimp only; omega)).setOther ⟨Bb6, 3, none⟩ _ (by dsimp only; omega)))
      have YG1 := Lib.hid (show Two U1 _ _ _ _ by rw [HV1.out]; exact ((((HSm.out.2.1.setOther ⟨Bb6, 0, none⟩ _ (by dsimp only; omega)).setOther ⟨Bb6, 1, none⟩ _ (by dsimp only; omega)).setOther ⟨Bb6, 2, none⟩ _ (by dsimp only; omega)).setOther ⟨Bb6, 3, none⟩ _ (by dsimp only; omega)))
      have YH1 := Lib.hid (show Two U1 _ _ _ _ by rw [HV1.out]; exact ((((HSm.out.2.2.setOther ⟨Bb6, 0, none⟩ _ (by dsimp only; omega)).setOther ⟨Bb6, 1, none⟩ _ (by dsimp only; omega)).setOther ⟨Bb6, 2, none⟩ _ (by dsimp only; omega)).setOther ⟨Bb6, 3, none⟩ _ (by dsimp only; omega)))
      have YR1 := Lib.hid (show Two U1 _ _ _ _ by rw [HV1.out]; exact (((((YR.out.below HBb.out YR.out.lt).setOther ⟨Bb6, 0, none⟩ _ (by dsimp only; omega)).setOther ⟨Bb6, 1, none⟩ _ (by dsimp only; omega)).setOther ⟨Bb6, 2, none⟩ _ (by dsimp only; omega)).setOther ⟨Bb6, 3, none⟩ _ (by dsimp only; omega)))
      have la := HNa.out.lt
      have Ya := Lib.hid (show Four U1 _ _ _ _ _ _ by rw [HV1.out]; exact Four.keep4 (HNa.out.below HBb.out HNa.out.lt) (by omega))
      have YIa := Lib.hid (show IsQ U1 _ _ _ _ by rw [HV1.out]; exact IsQ.stored4 (HIa.out.below HBb.out) HTb6.out)
      have HIb := Lib.hid (show IsQ U1 (.agg #[.bool pb5.1, .slice Ab5 nb5 cb5, .bool pb6.1, .slice Ab6 nb6 cb6]) _ _ _ by rw [HV1.out]; exact ⟨pb5.1, _, pb6.1, _, rfl, HPb.out.storedF HTb6.out, HQb.out.storedF HTb6.out⟩)
      have HNb := Lib.hid (show Four U1 Bb6 (.bool pb5.1) (.slice Ab5 nb5 cb5) (.bool pb6.1) (.slice Ab6 nb6 cb6) 98 by rw [HV1.out]; exact HTb6.out.set4 _ _ _ _)
      have HBU1 := Lib.hid (show Below w.heap.size w U1 by rw [HV1.out]; exact (((HBm.out.setCell (by dsimp only; omega) _).setCell (by dsimp only; omega) _).setCell (by dsimp only; omega) _).setCell (by dsimp only; omega) _)
      refine Lex.lexQ_normal (fun _ => ⟨YF1.out, YG1.out, YH1.out⟩) ?_
      refine Lex.lex_nil ?_
      clear HV1 HBm HBb HSm HTb6 HPb HQb YF YG YH YR HBV1 cb csb cxb cx
      have k0 := Ya.out.cell0
      have k1 := Ya.out.cell1
      have k2 := Ya.out.cell2
      have k3 := Ya.out.cell3
      have k4 := HNb.out.cell0
      have k5 := HNb.out.cell1
      have k6 := HNb.out.cell2
      have k7 := HNb.out.cell3
      have c9 := cc U1 HBU1.out _ _ YIa.out HIb.out
      go_wp2_with fail
      refine c9.mono ?_
      rintro e V9 ⟨v9, rfl, rfl, hn9⟩
      have XF := Lib.hid (YG1.out.below hn9 YG1.out.lt)
      have XG := Lib.hid (YH1.out.below hn9 YH1.out.lt)
      have XR := Lib.hid (YR1.out.below hn9 YR1.out.lt)
      have XW := Lib.hid (HBU1.out.trans (hn9.mono HBU1.out.size))
      clear k0 k1 k2 k3 k4 k5 k6 k7 c9 cc hn9 Ya HNb YIa HIb YF1 YG1 YH1 YR1 HBU1 HNa HIa
      rcases HC.out with ⟨d1, rfl, rfl⟩ | ⟨d1, d2, rfl, rfl⟩ | ⟨d1, d2, rfl, d4, rfl, rfl⟩ | ⟨d1, d2, rfl, d4, rfl, rfl⟩ | ⟨d1, d2, d3, rfl, rfl⟩ | ⟨d1, rfl, rfl⟩
      all_goals
        clear HC
        have k0 := XF.out.cell0
        have k1 := XF.out.cell1
        have k2 := XG.out.cell0
        have k3 := XG.out.cell1
        have r0 := XR.out.cell0
        have r1 := XR.out.cell1
        have g0 := XR.out.free 0
        have g1 := XR.out.free 1
        go_wp2
        refine bodyPost_ret (v := .agg #[.int .i64 yn, .int .i64 yd]) (by simp [results, Tryz.results69, go_sem, r0, r1]) rfl ⟨rfl, ?_⟩
        exact (XW.out.setCell (by dsimp only; omega) _).setCell (by dsimp only; omega) _

end Go.Proofs.YtklngjjokbhfpaaGreat
