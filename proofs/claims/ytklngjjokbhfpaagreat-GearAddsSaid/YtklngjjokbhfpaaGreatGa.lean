/- wide's Rat.Div; gear's Sub, Div, Check; ref's AddQ, DivQ; the laws' form, add, mul (printed by genga.py). -/
import Derived.Test.YtklngjjokbhfpaaGreatFa
import Derived.Test.YtklngjjokbhfpaaGreatEd
import Derived.Test.YtklngjjokbhfpaaGreatEv
namespace Go.Proofs.YtklngjjokbhfpaaGreat
open Go.RowKit

set_option maxRecDepth 100000 in
set_option maxHeartbeats 1600000 in
theorem qdiv_pos {w : World} {u v : Value} {p q p1 q1 : Int} {N M : Nat} (hu : IsQ w u p q N) (hv : IsQ w v p1 q1 M) (hN : N ≤ 200) (hM : M ≤ 200) (hd : 0 < q * p1) :
    Calls Tryz.prog 79 #[u, v] w (RetQ (p * q1) (q * p1) (N + M) w) := by
  obtain ⟨pa0, A0, n0, c0, pb0, B0, m0, d0, rfl, hp, hq⟩ := hu.open2
  obtain ⟨pa1, A1, n1, c1, pb1, B1, m1, d1, rfl, hp1, hq1⟩ := hv.open2
  have ca : ∀ W, Below w.heap.size w W → Calls Tryz.prog 121 #[.agg #[.bool pa0.1, .slice A0 n0 c0], .agg #[.bool pb1.1, .slice B1 m1 d1]] W (RetZ (p * q1) (N + M) W) := fun W hb => mul_any (hp.below hb) (hq1.below hb) (by omega) (by omega)
  have cb : ∀ W, Below w.heap.size w W → Calls Tryz.prog 121 #[.agg #[.bool pb0.1, .slice B0 m0 d0], .agg #[.bool pa1.1, .slice A1 n1 c1]] W (RetZ (q * p1) (N + M) W) := fun W hb => mul_any (hq.below hb) (hp1.below hb) (by omega) (by omega)
  have cs : ∀ W (_ : Below w.heap.size w W) u v, IsZ W u (p * q1) (N + M) → IsZ W v (q * p1) (N + M) → Calls Tryz.prog 73 #[u, v] W (RetQ (p * q1) (q * p1) (N + M) W) := fun W _ u v h1 h2 => qratio_any h1 h2 hd
  clear hu hv hp hq hp1 hq1 hd
  obtain ⟨W3, hW3⟩ : ∃ W3, W3 = (((w.alloc (.cells #[.bool pa0.1, .slice A0 n0 c0, .bool pb0.1, .slice B0 m0 d0] 98)).alloc (.cells #[.bool pa1.1, .slice A1 n1 c1, .bool pb1.1, .slice B1 m1 d1] 98)).alloc (.cells #[.bool false, .slice none 0 0, .bool false, .slice none 0 0] 98)) := ⟨_, rfl⟩
  have hB : Below w.heap.size w W3 := by rw [hW3]; exact ((((Below.refl _ _).alloc (Nat.le_refl _) _).alloc (by simp; try omega) _).alloc (by simp; try omega) _)
  have HBW := Lib.hid hB
  have HF := Lib.hid (show Four W3 (w.heap.size) (.bool pa0.1) (.slice A0 n0 c0) (.bool pb0.1) (.slice B0 m0 d0) 98 by rw [hW3]; exact (((((Four.newAt _ _ _ _ _ _ _ (by simp))).alloc _)).alloc _))
  have HG := Lib.hid (show Four W3 (w.heap.size + 1) (.bool pa1.1) (.slice A1 n1 c1) (.bool pb1.1) (.slice B1 m1 d1) 98 by rw [hW3]; exact (((Four.newAt _ _ _ _ _ _ _ (by simp))).alloc _))
  have HR := Lib.hid (show Four W3 (w.heap.size + 1 + 1) (.bool false) (.slice none 0 0) (.bool false) (.slice none 0 0) 98 by rw [hW3]; exact (Four.newAt _ _ _ _ _ _ _ (by simp)))
  clear hB
  go_enter Tryz.func79, Tryz.ntmps79
  go_wp2_with fail
  rw [← hW3]
  clear hW3
  refine Lex.wp_region_lex (fun w' => Four w' w.heap.size (.bool pa0.1) (.slice A0 n0 c0) (.bool pb0.1) (.slice B0 m0 d0) 98 ∧ Four w' (w.heap.size + 1) (.bool pa1.1) (.slice A1 n1 c1) (.bool pb1.1) (.slice B1 m1 d1) 98) (fun j => j != 11)
    [(0, true), (1, true), (2, true), (3, true), (5, true), (6, true), (7, true), (8, true), (4, false), (9, false), (10, false), (11, false)]
    (by kernel_rfl) (by kernel_rfl) (by kernel_rfl) (by kernel_rfl) ⟨HF.out, HG.out⟩ ?_
  iterate 8 (refine Lex.lex_take (v := ?_) rfl rfl (by rfl) (fun _ hS => ?_) ?_; rotate_left 1; (focus (have g0_0 := hS.1.cell0; have g0_1 := hS.1.cell1; have g0_2 := hS.1.cell2; have g0_3 := hS.1.cell3; have g1_0 := hS.2.cell0; have g1_1 := hS.2.cell1; have g1_2 := hS.2.cell2; have g1_3 := hS.2.cell3; clear hS; go_simp; with_reducible rfl)); simp only [List.setIfInBounds_toArray, List.set_cons_zero, List.set_cons_succ])
  refine Lex.lex_do rfl ?_
  have hb0 : Below W3.heap.size W3 W3.drew := ⟨rfl, rfl, rfl, Nat.le_refl _, fun _ _ => rfl⟩
  have hw0 : Below w.heap.size w W3.drew := ⟨HBW.out.os, HBW.out.tape, HBW.out.output, HBW.out.size, HBW.out.block⟩
  generalize hV0 : W3.drew = V0 at *
  clear hV0
  have cc := ca V0 hw0
  go_wp2_with fail
  refine cc.mono ?_
  rintro e V1 ⟨v1, rfl, hm1, hn1⟩
  have hb1 := hb0.trans (hn1.mono hb0.size)
  have hw1 := hw0.trans (hn1.mono hw0.size)
  clear cc hb0 hw0 hn1
  go_wp2_with fail
  have E0 := HF.out.below hb1 HF.out.lt
  have E1 := HG.out.below hb1 HG.out.lt
  refine Lex.lexQ_normal (fun _ => ⟨E0, E1⟩) ?_
  refine Lex.lex_do rfl ?_
  clear E0 E1
  have cc := cb V1 hw1
  go_wp2_with fail
  refine cc.mono ?_
  rintro e V2 ⟨v2, rfl, hm2, hn2⟩
  have hb2 := hb1.trans (hn2.mono hb1.size)
  have hw2 := hw1.trans (hn2.mono hw1.size)
  have hm1 := hm1.below hn2
  clear cc hb1 hw1 hn2
  go_wp2_with fail
  have E0 := HF.out.below hb2 HF.out.lt
  have E1 := HG.out.below hb2 HG.out.lt
  refine Lex.lexQ_normal (fun _ => ⟨E0, E1⟩) ?_
  refine Lex.lex_do rfl ?_
  clear E0 E1
  have cc := cs V2 hw2 _ _ hm1 hm2
  go_wp2_with fail
  refine cc.mono ?_
  rintro e V3 ⟨v3, rfl, hm3, hn3⟩
  have hb3 := hb2.trans (hn3.mono hb2.size)
  have hw3 := hw2.trans (hn3.mono hw2.size)
  clear hm1 hm2
  clear cc hb2 hw2 hn3
  go_wp2_with fail
  have E0 := HF.out.below hb3 HF.out.lt
  have E1 := HG.out.below hb3 HG.out.lt
  refine Lex.lexQ_normal (fun _ => ⟨E0, E1⟩) ?_
  refine Lex.lex_do rfl ?_
  clear E0 E1
  obtain ⟨p5, A5, n5, c5, p6, A6, n6, c6, rfl, hp5, hq6⟩ := hm3.open2
  have HR4 := HR.out.below hb3 HR.out.lt
  have r0 := HR4.cell0
  have r1 := HR4.cell1
  have r2 := HR4.cell2
  have r3 := HR4.cell3
  have g0 := HR4.free 0
  have g1 := HR4.free 1
  have g2 := HR4.free 2
  have g3 := HR4.free 3
  have HP := Lib.hid (hp5.storedF (u0 := .bool p5.1) (u1 := .slice A5 n5 c5) (u2 := .bool p6.1) (u3 := .slice A6 n6 c6) HR4)
  have HQ := Lib.hid (hq6.storedF (u0 := .bool p5.1) (u1 := .slice A5 n5 c5) (u2 := .bool p6.1) (u3 := .slice A6 n6 c6) HR4)
  have HBE := Lib.hid hw3
  clear HR4 hp5 hq6 hw3 hb3
  go_wp2_with fail
  refine Lex.lexQ_normal (fun h => absurd h (by decide)) ?_
  refine Lex.lex_nil ?_
  go_wp2
  refine bodyPost_ret (v := .agg #[.bool p5.1, .slice A5 n5 c5, .bool p6.1, .slice A6 n6 c6]) (by simp [results, Tryz.results79, go_sem, r0, r1, r2, r3]) rfl ⟨_, rfl, ⟨p5.1, _, p6.1, _, rfl, HP.out, HQ.out⟩, ?_⟩
  exact (((HBE.out.setCell (by simp; try omega) _).setCell (by simp; try omega) _).setCell (by simp; try omega) _).setCell (by simp; try omega) _

set_option maxRecDepth 100000 in
set_option maxHeartbeats 1600000 in
theorem qdiv_neg {w : World} {u v : Value} {p q p1 q1 : Int} {N M : Nat} (hu : IsQ w u p q N) (hv : IsQ w v p1 q1 M) (hN : N ≤ 200) (hM : M ≤ 200) (hd : q * p1 < 0) :
    Calls Tryz.prog 79 #[u, v] w (RetQ (-(p * q1)) (-(q * p1)) (N + M) w) := by
  obtain ⟨pa0, A0, n0, c0, pb0, B0, m0, d0, rfl, hp, hq⟩ := hu.open2
  obtain ⟨pa1, A1, n1, c1, pb1, B1, m1, d1, rfl, hp1, hq1⟩ := hv.open2
  have ca : ∀ W, Below w.heap.size w W → Calls Tryz.prog 121 #[.agg #[.bool pa0.1, .slice A0 n0 c0], .agg #[.bool pb1.1, .slice B1 m1 d1]] W (RetZ (p * q1) (N + M) W) := fun W hb => mul_any (hp.below hb) (hq1.below hb) (by omega) (by omega)
  have cb : ∀ W, Below w.heap.size w W → Calls Tryz.prog 121 #[.agg #[.bool pb0.1, .slice B0 m0 d0], .agg #[.bool pa1.1, .slice A1 n1 c1]] W (RetZ (q * p1) (N + M) W) := fun W hb => mul_any (hq.below hb) (hp1.below hb) (by omega) (by omega)
  have cs : ∀ W (_ : Below w.heap.size w W) u v, IsZ W u (p * q1) (N + M) → IsZ W v (q * p1) (N + M) → Calls Tryz.prog 73 #[u, v] W (RetQ (-(p * q1)) (-(q * p1)) (N + M) W) := fun W _ u v h1 h2 => qratio_neg h1 h2 hd (by omega)
  clear hu hv hp hq hp1 hq1 hd
  obtain ⟨W3, hW3⟩ : ∃ W3, W3 = (((w.alloc (.cells #[.bool pa0.1, .slice A0 n0 c0, .bool pb0.1, .slice B0 m0 d0] 98)).alloc (.cells #[.bool pa1.1, .slice A1 n1 c1, .bool pb1.1, .slice B1 m1 d1] 98)).alloc (.cells #[.bool false, .slice none 0 0, .bool false, .slice none 0 0] 98)) := ⟨_, rfl⟩
  have hB : Below w.heap.size w W3 := by rw [hW3]; exact ((((Below.refl _ _).alloc (Nat.le_refl _) _).alloc (by simp; try omega) _).alloc (by simp; try omega) _)
  have HBW := Lib.hid hB
  have HF := Lib.hid (show Four W3 (w.heap.size) (.bool pa0.1) (.slice A0 n0 c0) (.bool pb0.1) (.slice B0 m0 d0) 98 by rw [hW3]; exact (((((Four.newAt _ _ _ _ _ _ _ (by simp))).alloc _)).alloc _))
  have HG := Lib.hid (show Four W3 (w.heap.size + 1) (.bool pa1.1) (.slice A1 n1 c1) (.bool pb1.1) (.slice B1 m1 d1) 98 by rw [hW3]; exact (((Four.newAt _ _ _ _ _ _ _ (by simp))).alloc _))
  have HR := Lib.hid (show Four W3 (w.heap.size + 1 + 1) (.bool false) (.slice none 0 0) (.bool false) (.slice none 0 0) 98 by rw [hW3]; exact (Four.newAt _ _ _ _ _ _ _ (by simp)))
  clear hB
  go_enter Tryz.func79, Tryz.ntmps79
  go_wp2_with fail
  rw [← hW3]
  clear hW3
  refine Lex.wp_region_lex (fun w' => Four w' w.heap.size (.bool pa0.1) (.slice A0 n0 c0) (.bool pb0.1) (.slice B0 m0 d0) 98 ∧ Four w' (w.heap.size + 1) (.bool pa1.1) (.slice A1 n1 c1) (.bool pb1.1) (.slice B1 m1 d1) 98) (fun j => j != 11)
    [(0, true), (1, true), (2, true), (3, true), (5, true), (6, true), (7, true), (8, true), (4, false), (9, false), (10, false), (11, false)]
    (by kernel_rfl) (by kernel_rfl) (by kernel_rfl) (by kernel_rfl) ⟨HF.out, HG.out⟩ ?_
  iterate 8 (refine Lex.lex_take (v := ?_) rfl rfl (by rfl) (fun _ hS => ?_) ?_; rotate_left 1; (focus (have g0_0 := hS.1.cell0; have g0_1 := hS.1.cell1; have g0_2 := hS.1.cell2; have g0_3 := hS.1.cell3; have g1_0 := hS.2.cell0; have g1_1 := hS.2.cell1; have g1_2 := hS.2.cell2; have g1_3 := hS.2.cell3; clear hS; go_simp; with_reducible rfl)); simp only [List.setIfInBounds_toArray, List.set_cons_zero, List.set_cons_succ])
  refine Lex.lex_do rfl ?_
  have hb0 : Below W3.heap.size W3 W3.drew := ⟨rfl, rfl, rfl, Nat.le_refl _, fun _ _ => rfl⟩
  have hw0 : Below w.heap.size w W3.drew := ⟨HBW.out.os, HBW.out.tape, HBW.out.output, HBW.out.size, HBW.out.block⟩
  generalize hV0 : W3.drew = V0 at *
  clear hV0
  have cc := ca V0 hw0
  go_wp2_with fail
  refine cc.mono ?_
  rintro e V1 ⟨v1, rfl, hm1, hn1⟩
  have hb1 := hb0.trans (hn1.mono hb0.size)
  have hw1 := hw0.trans (hn1.mono hw0.size)
  clear cc hb0 hw0 hn1
  go_wp2_with fail
  have E0 := HF.out.below hb1 HF.out.lt
  have E1 := HG.out.below hb1 HG.out.lt
  refine Lex.lexQ_normal (fun _ => ⟨E0, E1⟩) ?_
  refine Lex.lex_do rfl ?_
  clear E0 E1
  have cc := cb V1 hw1
  go_wp2_with fail
  refine cc.mono ?_
  rintro e V2 ⟨v2, rfl, hm2, hn2⟩
  have hb2 := hb1.trans (hn2.mono hb1.size)
  have hw2 := hw1.trans (hn2.mono hw1.size)
  have hm1 := hm1.below hn2
  clear cc hb1 hw1 hn2
  go_wp2_with fail
  have E0 := HF.out.below hb2 HF.out.lt
  have E1 := HG.out.below hb2 HG.out.lt
  refine Lex.lexQ_normal (fun _ => ⟨E0, E1⟩) ?_
  refine Lex.lex_do rfl ?_
  clear E0 E1
  have cc := cs V2 hw2 _ _ hm1 hm2
  go_wp2_with fail
  refine cc.mono ?_
  rintro e V3 ⟨v3, rfl, hm3, hn3⟩
  have hb3 := hb2.trans (hn3.mono hb2.size)
  have hw3 := hw2.trans (hn3.mono hw2.size)
  clear hm1 hm2
  clear cc hb2 hw2 hn3
  go_wp2_with fail
  have E0 := HF.out.below hb3 HF.out.lt
  have E1 := HG.out.below hb3 HG.out.lt
  refine Lex.lexQ_normal (fun _ => ⟨E0, E1⟩) ?_
  refine Lex.lex_do rfl ?_
  clear E0 E1
  obtain ⟨p5, A5, n5, c5, p6, A6, n6, c6, rfl, hp5, hq6⟩ := hm3.open2
  have HR4 := HR.out.below hb3 HR.out.lt
  have r0 := HR4.cell0
  have r1 := HR4.cell1
  have r2 := HR4.cell2
  have r3 := HR4.cell3
  have g0 := HR4.free 0
  have g1 := HR4.free 1
  have g2 := HR4.free 2
  have g3 := HR4.free 3
  have HP := Lib.hid (hp5.storedF (u0 := .bool p5.1) (u1 := .slice A5 n5 c5) (u2 := .bool p6.1) (u3 := .slice A6 n6 c6) HR4)
  have HQ := Lib.hid (hq6.storedF (u0 := .bool p5.1) (u1 := .slice A5 n5 c5) (u2 := .bool p6.1) (u3 := .slice A6 n6 c6) HR4)
  have HBE := Lib.hid hw3
  clear HR4 hp5 hq6 hw3 hb3
  go_wp2_with fail
  refine Lex.lexQ_normal (fun h => absurd h (by decide)) ?_
  refine Lex.lex_nil ?_
  go_wp2
  refine bodyPost_ret (v := .agg #[.bool p5.1, .slice A5 n5 c5, .bool p6.1, .slice A6 n6 c6]) (by simp [results, Tryz.results79, go_sem, r0, r1, r2, r3]) rfl ⟨_, rfl, ⟨p5.1, _, p6.1, _, rfl, HP.out, HQ.out⟩, ?_⟩
  exact (((HBE.out.setCell (by simp; try omega) _).setCell (by simp; try omega) _).setCell (by simp; try omega) _).setCell (by simp; try omega) _

set_option maxRecDepth 100000 in
set_option maxHeartbeats 1600000 in
theorem rdiv_pos {w : World} {u v : Value} {p q p1 q1 : Int} {N M : Nat} (hu : IsRQ w u p q N) (hv : IsRQ w v p1 q1 M) (hN : N ≤ 200) (hM : M ≤ 200) (hd : 0 < q * p1) :
    Calls Tryz.prog 42 #[u, v] w (RetRQ (p * q1) (q * p1) (N + M + 1) w) := by
  obtain ⟨pa0, A0, n0, c0, pb0, B0, m0, d0, rfl, hp, hq⟩ := hu.open'
  obtain ⟨pa1, A1, n1, c1, pb1, B1, m1, d1, rfl, hp1, hq1⟩ := hv.open'
  have ca : ∀ W, Below w.heap.size w W → Calls Tryz.prog 65 #[.agg #[.bool pa0.1, .slice A0 n0 c0], .agg #[.bool pb1.1, .slice B1 m1 d1]] W (RetR (p * q1) (N + M + 1) W) := fun W hb => rmul_any (hp.below hb) (hq1.below hb) (by omega) (by omega)
  have cb : ∀ W, Below w.heap.size w W → Calls Tryz.prog 65 #[.agg #[.bool pb0.1, .slice B0 m0 d0], .agg #[.bool pa1.1, .slice A1 n1 c1]] W (RetR (q * p1) (N + M + 1) W) := fun W hb => rmul_any (hq.below hb) (hp1.below hb) (by omega) (by omega)
  have cs : ∀ W (_ : Below w.heap.size w W) u v, IsR W u (p * q1) (N + M + 1) → IsR W v (q * p1) (N + M + 1) → Calls Tryz.prog 76 #[u, v] W (RetRQ (p * q1) (q * p1) (N + M + 1) W) := fun W _ u v h1 h2 => rratio_any h1 h2 hd
  clear hu hv hp hq hp1 hq1 hd
  obtain ⟨W3, hW3⟩ : ∃ W3, W3 = (((w.alloc (.cells #[.bool pa0.1, .slice A0 n0 c0, .bool pb0.1, .slice B0 m0 d0] 40)).alloc (.cells #[.bool pa1.1, .slice A1 n1 c1, .bool pb1.1, .slice B1 m1 d1] 40)).alloc (.cells #[.bool false, .slice none 0 0, .bool false, .slice none 0 0] 40)) := ⟨_, rfl⟩
  have hB : Below w.heap.size w W3 := by rw [hW3]; exact ((((Below.refl _ _).alloc (Nat.le_refl _) _).alloc (by simp; try omega) _).alloc (by simp; try omega) _)
  have HBW := Lib.hid hB
  have HF := Lib.hid (show Four W3 (w.heap.size) (.bool pa0.1) (.slice A0 n0 c0) (.bool pb0.1) (.slice B0 m0 d0) 40 by rw [hW3]; exact (((((Four.newAt _ _ _ _ _ _ _ (by simp))).alloc _)).alloc _))
  have HG := Lib.hid (show Four W3 (w.heap.size + 1) (.bool pa1.1) (.slice A1 n1 c1) (.bool pb1.1) (.slice B1 m1 d1) 40 by rw [hW3]; exact (((Four.newAt _ _ _ _ _ _ _ (by simp))).alloc _))
  have HR := Lib.hid (show Four W3 (w.heap.size + 1 + 1) (.bool false) (.slice none 0 0) (.bool false) (.slice none 0 0) 40 by rw [hW3]; exact (Four.newAt _ _ _ _ _ _ _ (by simp)))
  clear hB
  go_enter Tryz.func42, Tryz.ntmps42
  go_wp2_with fail
  rw [← hW3]
  clear hW3
  refine Lex.wp_region_lex (fun w' => Four w' w.heap.size (.bool pa0.1) (.slice A0 n0 c0) (.bool pb0.1) (.slice B0 m0 d0) 40 ∧ Four w' (w.heap.size + 1) (.bool pa1.1) (.slice A1 n1 c1) (.bool pb1.1) (.slice B1 m1 d1) 40) (fun j => j != 11)
    [(0, true), (1, true), (2, true), (3, true), (5, true), (6, true), (7, true), (8, true), (4, false), (9, false), (10, false), (11, false)]
    (by kernel_rfl) (by kernel_rfl) (by kernel_rfl) (by kernel_rfl) ⟨HF.out, HG.out⟩ ?_
  iterate 8 (refine Lex.lex_take (v := ?_) rfl rfl (by rfl) (fun _ hS => ?_) ?_; rotate_left 1; (focus (have g0_0 := hS.1.cell0; have g0_1 := hS.1.cell1; have g0_2 := hS.1.cell2; have g0_3 := hS.1.cell3; have g1_0 := hS.2.cell0; have g1_1 := hS.2.cell1; have g1_2 := hS.2.cell2; have g1_3 := hS.2.cell3; clear hS; go_simp; with_reducible rfl)); simp only [List.setIfInBounds_toArray, List.set_cons_zero, List.set_cons_succ])
  refine Lex.lex_do rfl ?_
  have hb0 : Below W3.heap.size W3 W3.drew := ⟨rfl, rfl, rfl, Nat.le_refl _, fun _ _ => rfl⟩
  have hw0 : Below w.heap.size w W3.drew := ⟨HBW.out.os, HBW.out.tape, HBW.out.output, HBW.out.size, HBW.out.block⟩
  generalize hV0 : W3.drew = V0 at *
  clear hV0
  have cc := ca V0 hw0
  go_wp2_with fail
  refine cc.mono ?_
  rintro e V1 ⟨v1, rfl, hm1, hn1⟩
  have hb1 := hb0.trans (hn1.mono hb0.size)
  have hw1 := hw0.trans (hn1.mono hw0.size)
  clear cc hb0 hw0 hn1
  go_wp2_with fail
  have E0 := HF.out.below hb1 HF.out.lt
  have E1 := HG.out.below hb1 HG.out.lt
  refine Lex.lexQ_normal (fun _ => ⟨E0, E1⟩) ?_
  refine Lex.lex_do rfl ?_
  clear E0 E1
  have cc := cb V1 hw1
  go_wp2_with fail
  refine cc.mono ?_
  rintro e V2 ⟨v2, rfl, hm2, hn2⟩
  have hb2 := hb1.trans (hn2.mono hb1.size)
  have hw2 := hw1.trans (hn2.mono hw1.size)
  have hm1 := hm1.below hn2
  clear cc hb1 hw1 hn2
  go_wp2_with fail
  have E0 := HF.out.below hb2 HF.out.lt
  have E1 := HG.out.below hb2 HG.out.lt
  refine Lex.lexQ_normal (fun _ => ⟨E0, E1⟩) ?_
  refine Lex.lex_do rfl ?_
  clear E0 E1
  have cc := cs V2 hw2 _ _ hm1 hm2
  go_wp2_with fail
  refine cc.mono ?_
  rintro e V3 ⟨v3, rfl, hm3, hn3⟩
  have hb3 := hb2.trans (hn3.mono hb2.size)
  have hw3 := hw2.trans (hn3.mono hw2.size)
  clear hm1 hm2
  clear cc hb2 hw2 hn3
  go_wp2_with fail
  have E0 := HF.out.below hb3 HF.out.lt
  have E1 := HG.out.below hb3 HG.out.lt
  refine Lex.lexQ_normal (fun _ => ⟨E0, E1⟩) ?_
  refine Lex.lex_do rfl ?_
  clear E0 E1
  obtain ⟨p5, A5, n5, c5, p6, A6, n6, c6, rfl, hp5, hq6⟩ := hm3.open'
  have HR4 := HR.out.below hb3 HR.out.lt
  have r0 := HR4.cell0
  have r1 := HR4.cell1
  have r2 := HR4.cell2
  have r3 := HR4.cell3
  have g0 := HR4.free 0
  have g1 := HR4.free 1
  have g2 := HR4.free 2
  have g3 := HR4.free 3
  have HP := Lib.hid (hp5.storedQ (u0 := .bool p5.1) (u1 := .slice A5 n5 c5) (u2 := .bool p6.1) (u3 := .slice A6 n6 c6) HR4)
  have HQ := Lib.hid (hq6.storedQ (u0 := .bool p5.1) (u1 := .slice A5 n5 c5) (u2 := .bool p6.1) (u3 := .slice A6 n6 c6) HR4)
  have HBE := Lib.hid hw3
  clear HR4 hp5 hq6 hw3 hb3
  go_wp2_with fail
  refine Lex.lexQ_normal (fun h => absurd h (by decide)) ?_
  refine Lex.lex_nil ?_
  go_wp2
  refine bodyPost_ret (v := .agg #[.bool p5.1, .slice A5 n5 c5, .bool p6.1, .slice A6 n6 c6]) (by simp [results, Tryz.results42, go_sem, r0, r1, r2, r3]) rfl ⟨_, rfl, ⟨p5.1, _, p6.1, _, rfl, HP.out, HQ.out⟩, ?_⟩
  exact (((HBE.out.setCell (by simp; try omega) _).setCell (by simp; try omega) _).setCell (by simp; try omega) _).setCell (by simp; try omega) _

set_option maxRecDepth 100000 in
set_option maxHeartbeats 1600000 in
theorem rdiv_neg {w : World} {u v : Value} {p q p1 q1 : Int} {N M : Nat} (hu : IsRQ w u p q N) (hv : IsRQ w v p1 q1 M) (hN : N ≤ 200) (hM : M ≤ 200) (hd : q * p1 < 0) :
    Calls Tryz.prog 42 #[u, v] w (RetRQ (-(p * q1)) (-(q * p1)) (N + M + 1) w) := by
  obtain ⟨pa0, A0, n0, c0, pb0, B0, m0, d0, rfl, hp, hq⟩ := hu.open'
  obtain ⟨pa1, A1, n1, c1, pb1, B1, m1, d1, rfl, hp1, hq1⟩ := hv.open'
  have ca : ∀ W, Below w.heap.size w W → Calls Tryz.prog 65 #[.agg #[.bool pa0.1, .slice A0 n0 c0], .agg #[.bool pb1.1, .slice B1 m1 d1]] W (RetR (p * q1) (N + M + 1) W) := fun W hb => rmul_any (hp.below hb) (hq1.below hb) (by omega) (by omega)
  have cb : ∀ W, Below w.heap.size w W → Calls Tryz.prog 65 #[.agg #[.bool pb0.1, .slice B0 m0 d0], .agg #[.bool pa1.1, .slice A1 n1 c1]] W (RetR (q * p1) (N + M + 1) W) := fun W hb => rmul_any (hq.below hb) (hp1.below hb) (by omega) (by omega)
  have cs : ∀ W (_ : Below w.heap.size w W) u v, IsR W u (p * q1) (N + M + 1) → IsR W v (q * p1) (N + M + 1) → Calls Tryz.prog 76 #[u, v] W (RetRQ (-(p * q1)) (-(q * p1)) (N + M + 1) W) := fun W _ u v h1 h2 => rratio_neg h1 h2 hd (by omega)
  clear hu hv hp hq hp1 hq1 hd
  obtain ⟨W3, hW3⟩ : ∃ W3, W3 = (((w.alloc (.cells #[.bool pa0.1, .slice A0 n0 c0, .bool pb0.1, .slice B0 m0 d0] 40)).alloc (.cells #[.bool pa1.1, .slice A1 n1 c1, .bool pb1.1, .slice B1 m1 d1] 40)).alloc (.cells #[.bool false, .slice none 0 0, .bool false, .slice none 0 0] 40)) := ⟨_, rfl⟩
  have hB : Below w.heap.size w W3 := by rw [hW3]; exact ((((Below.refl _ _).alloc (Nat.le_refl _) _).alloc (by simp; try omega) _).alloc (by simp; try omega) _)
  have HBW := Lib.hid hB
  have HF := Lib.hid (show Four W3 (w.heap.size) (.bool pa0.1) (.slice A0 n0 c0) (.bool pb0.1) (.slice B0 m0 d0) 40 by rw [hW3]; exact (((((Four.newAt _ _ _ _ _ _ _ (by simp))).alloc _)).alloc _))
  have HG := Lib.hid (show Four W3 (w.heap.size + 1) (.bool pa1.1) (.slice A1 n1 c1) (.bool pb1.1) (.slice B1 m1 d1) 40 by rw [hW3]; exact (((Four.newAt _ _ _ _ _ _ _ (by simp))).alloc _))
  have HR := Lib.hid (show Four W3 (w.heap.size + 1 + 1) (.bool false) (.slice none 0 0) (.bool false) (.slice none 0 0) 40 by rw [hW3]; exact (Four.newAt _ _ _ _ _ _ _ (by simp)))
  clear hB
  go_enter Tryz.func42, Tryz.ntmps42
  go_wp2_with fail
  rw [← hW3]
  clear hW3
  refine Lex.wp_region_lex (fun w' => Four w' w.heap.size (.bool pa0.1) (.slice A0 n0 c0) (.bool pb0.1) (.slice B0 m0 d0) 40 ∧ Four w' (w.heap.size + 1) (.bool pa1.1) (.slice A1 n1 c1) (.bool pb1.1) (.slice B1 m1 d1) 40) (fun j => j != 11)
    [(0, true), (1, true), (2, true), (3, true), (5, true), (6, true), (7, true), (8, true), (4, false), (9, false), (10, false), (11, false)]
    (by kernel_rfl) (by kernel_rfl) (by kernel_rfl) (by kernel_rfl) ⟨HF.out, HG.out⟩ ?_
  iterate 8 (refine Lex.lex_take (v := ?_) rfl rfl (by rfl) (fun _ hS => ?_) ?_; rotate_left 1; (focus (have g0_0 := hS.1.cell0; have g0_1 := hS.1.cell1; have g0_2 := hS.1.cell2; have g0_3 := hS.1.cell3; have g1_0 := hS.2.cell0; have g1_1 := hS.2.cell1; have g1_2 := hS.2.cell2; have g1_3 := hS.2.cell3; clear hS; go_simp; with_reducible rfl)); simp only [List.setIfInBounds_toArray, List.set_cons_zero, List.set_cons_succ])
  refine Lex.lex_do rfl ?_
  have hb0 : Below W3.heap.size W3 W3.drew := ⟨rfl, rfl, rfl, Nat.le_refl _, fun _ _ => rfl⟩
  have hw0 : Below w.heap.size w W3.drew := ⟨HBW.out.os, HBW.out.tape, HBW.out.output, HBW.out.size, HBW.out.block⟩
  generalize hV0 : W3.drew = V0 at *
  clear hV0
  have cc := ca V0 hw0
  go_wp2_with fail
  refine cc.mono ?_
  rintro e V1 ⟨v1, rfl, hm1, hn1⟩
  have hb1 := hb0.trans (hn1.mono hb0.size)
  have hw1 := hw0.trans (hn1.mono hw0.size)
  clear cc hb0 hw0 hn1
  go_wp2_with fail
  have E0 := HF.out.below hb1 HF.out.lt
  have E1 := HG.out.below hb1 HG.out.lt
  refine Lex.lexQ_normal (fun _ => ⟨E0, E1⟩) ?_
  refine Lex.lex_do rfl ?_
  clear E0 E1
  have cc := cb V1 hw1
  go_wp2_with fail
  refine cc.mono ?_
  rintro e V2 ⟨v2, rfl, hm2, hn2⟩
  have hb2 := hb1.trans (hn2.mono hb1.size)
  have hw2 := hw1.trans (hn2.mono hw1.size)
  have hm1 := hm1.below hn2
  clear cc hb1 hw1 hn2
  go_wp2_with fail
  have E0 := HF.out.below hb2 HF.out.lt
  have E1 := HG.out.below hb2 HG.out.lt
  refine Lex.lexQ_normal (fun _ => ⟨E0, E1⟩) ?_
  refine Lex.lex_do rfl ?_
  clear E0 E1
  have cc := cs V2 hw2 _ _ hm1 hm2
  go_wp2_with fail
  refine cc.mono ?_
  rintro e V3 ⟨v3, rfl, hm3, hn3⟩
  have hb3 := hb2.trans (hn3.mono hb2.size)
  have hw3 := hw2.trans (hn3.mono hw2.size)
  clear hm1 hm2
  clear cc hb2 hw2 hn3
  go_wp2_with fail
  have E0 := HF.out.below hb3 HF.out.lt
  have E1 := HG.out.below hb3 HG.out.lt
  refine Lex.lexQ_normal (fun _ => ⟨E0, E1⟩) ?_
  refine Lex.lex_do rfl ?_
  clear E0 E1
  obtain ⟨p5, A5, n5, c5, p6, A6, n6, c6, rfl, hp5, hq6⟩ := hm3.open'
  have HR4 := HR.out.below hb3 HR.out.lt
  have r0 := HR4.cell0
  have r1 := HR4.cell1
  have r2 := HR4.cell2
  have r3 := HR4.cell3
  have g0 := HR4.free 0
  have g1 := HR4.free 1
  have g2 := HR4.free 2
  have g3 := HR4.free 3
  have HP := Lib.hid (hp5.storedQ (u0 := .bool p5.1) (u1 := .slice A5 n5 c5) (u2 := .bool p6.1) (u3 := .slice A6 n6 c6) HR4)
  have HQ := Lib.hid (hq6.storedQ (u0 := .bool p5.1) (u1 := .slice A5 n5 c5) (u2 := .bool p6.1) (u3 := .slice A6 n6 c6) HR4)
  have HBE := Lib.hid hw3
  clear HR4 hp5 hq6 hw3 hb3
  go_wp2_with fail
  refine Lex.lexQ_normal (fun h => absurd h (by decide)) ?_
  refine Lex.lex_nil ?_
  go_wp2
  refine bodyPost_ret (v := .agg #[.bool p5.1, .slice A5 n5 c5, .bool p6.1, .slice A6 n6 c6]) (by simp [results, Tryz.results42, go_sem, r0, r1, r2, r3]) rfl ⟨_, rfl, ⟨p5.1, _, p6.1, _, rfl, HP.out, HQ.out⟩, ?_⟩
  exact (((HBE.out.setCell (by simp; try omega) _).setCell (by simp; try omega) _).setCell (by simp; try omega) _).setCell (by simp; try omega) _

set_option maxRecDepth 100000 in
set_option maxHeartbeats 1600000 in
theorem raddq_any {w : World} {u v : Value} {p q p1 q1 : Int} {N M : Nat} (hu : IsRQ w u p q N) (hv : IsRQ w v p1 q1 M) (hN : N ≤ 200) (hM : M ≤ 200) :
    Calls Tryz.prog 39 #[u, v] w (RetRQ (p * q1 + p1 * q) (q * q1) (N + M + 2) w) := by
  obtain ⟨pa0, A0, n0, c0, pb0, B0, m0, d0, rfl, hp, hq⟩ := hu.open'
  obtain ⟨pa1, A1, n1, c1, pb1, B1, m1, d1, rfl, hp1, hq1⟩ := hv.open'
  have ca : ∀ W, Below w.heap.size w W → Calls Tryz.prog 65 #[.agg #[.bool pa0.1, .slice A0 n0 c0], .agg #[.bool pb1.1, .slice B1 m1 d1]] W (RetR (p * q1) (N + M + 1) W) := fun W hb => rmul_any (hp.below hb) (hq1.below hb) (by omega) (by omega)
  have cb : ∀ W, Below w.heap.size w W → Calls Tryz.prog 65 #[.agg #[.bool pa1.1, .slice A1 n1 c1], .agg #[.bool pb0.1, .slice B0 m0 d0]] W (RetR (p1 * q) (M + N + 1) W) := fun W hb => rmul_any (hp1.below hb) (hq.below hb) (by omega) (by omega)
  have cs : ∀ W (_ : Below w.heap.size w W) u v, IsR W u (p * q1) (N + M + 1) → IsR W v (p1 * q) (M + N + 1) → Calls Tryz.prog 83 #[u, v] W (RetR (p * q1 + p1 * q) (N + M + 2) W) := fun W _ u v h1 h2 => (radd_any h1 h2 (by omega) (by omega)).mono fun e w' ⟨v, g1, g2, g3⟩ => ⟨v, g1, g2.more (by omega), g3⟩
  have cc : ∀ W, Below w.heap.size w W → Calls Tryz.prog 65 #[.agg #[.bool pb0.1, .slice B0 m0 d0], .agg #[.bool pb1.1, .slice B1 m1 d1]] W (RetR (q * q1) (N + M + 2) W) := fun W hb => (rmul_any (hq.below hb) (hq1.below hb) (by omega) (by omega)).mono fun e w' ⟨v, g1, g2, g3⟩ => ⟨v, g1, g2.more (by omega), g3⟩
  clear hu hv hp hq hp1 hq1
  obtain ⟨W3, hW3⟩ : ∃ W3, W3 = (((w.alloc (.cells #[.bool pa0.1, .slice A0 n0 c0, .bool pb0.1, .slice B0 m0 d0] 40)).alloc (.cells #[.bool pa1.1, .slice A1 n1 c1, .bool pb1.1, .slice B1 m1 d1] 40)).alloc (.cells #[.bool false, .slice none 0 0, .bool false, .slice none 0 0] 40)) := ⟨_, rfl⟩
  have hB : Below w.heap.size w W3 := by rw [hW3]; exact ((((Below.refl _ _).alloc (Nat.le_refl _) _).alloc (by simp; try omega) _).alloc (by simp; try omega) _)
  have HBW := Lib.hid hB
  have HF := Lib.hid (show Four W3 (w.heap.size) (.bool pa0.1) (.slice A0 n0 c0) (.bool pb0.1) (.slice B0 m0 d0) 40 by rw [hW3]; exact (((((Four.newAt _ _ _ _ _ _ _ (by simp))).alloc _)).alloc _))
  have HG := Lib.hid (show Four W3 (w.heap.size + 1) (.bool pa1.1) (.slice A1 n1 c1) (.bool pb1.1) (.slice B1 m1 d1) 40 by rw [hW3]; exact (((Four.newAt _ _ _ _ _ _ _ (by simp))).alloc _))
  have HR := Lib.hid (show Four W3 (w.heap.size + 1 + 1) (.bool false) (.slice none 0 0) (.bool false) (.slice none 0 0) 40 by rw [hW3]; exact (Four.newAt _ _ _ _ _ _ _ (by simp)))
  clear hB
  go_enter Tryz.func39, Tryz.ntmps39
  go_wp2_with fail
  rw [← hW3]
  clear hW3
  refine Lex.wp_region_lex (fun w' => Four w' w.heap.size (.bool pa0.1) (.slice A0 n0 c0) (.bool pb0.1) (.slice B0 m0 d0) 40 ∧ Four w' (w.heap.size + 1) (.bool pa1.1) (.slice A1 n1 c1) (.bool pb1.1) (.slice B1 m1 d1) 40) (fun j => j != 17)
    [(0, true), (1, true), (2, true), (3, true), (5, true), (6, true), (7, true), (8, true), (11, true), (12, true), (13, true), (14, true), (4, false), (9, false), (10, false), (15, false), (16, false), (17, false)]
    (by kernel_rfl) (by kernel_rfl) (by kernel_rfl) (by kernel_rfl) ⟨HF.out, HG.out⟩ ?_
  iterate 12 (refine Lex.lex_take (v := ?_) rfl rfl (by rfl) (fun _ hS => ?_) ?_; rotate_left 1; (focus (have g0_0 := hS.1.cell0; have g0_1 := hS.1.cell1; have g0_2 := hS.1.cell2; have g0_3 := hS.1.cell3; have g1_0 := hS.2.cell0; have g1_1 := hS.2.cell1; have g1_2 := hS.2.cell2; have g1_3 := hS.2.cell3; clear hS; go_simp; with_reducible rfl)); simp only [List.setIfInBounds_toArray, List.set_cons_zero, List.set_cons_succ])
  refine Lex.lex_do rfl ?_
  have hb0 : Below W3.heap.size W3 W3.drew := ⟨rfl, rfl, rfl, Nat.le_refl _, fun _ _ => rfl⟩
  have hw0 : Below w.heap.size w W3.drew := ⟨HBW.out.os, HBW.out.tape, HBW.out.output, HBW.out.size, HBW.out.block⟩
  generalize hV0 : W3.drew = V0 at *
  clear hV0
  have cc := ca V0 hw0
  go_wp2_with fail
  refine cc.mono ?_
  rintro e V1 ⟨v1, rfl, hm1, hn1⟩
  have hb1 := hb0.trans (hn1.mono hb0.size)
  have hw1 := hw0.trans (hn1.mono hw0.size)
  clear cc hb0 hw0 hn1
  go_wp2_with fail
  have E0 := HF.out.below hb1 HF.out.lt
  have E1 := HG.out.below hb1 HG.out.lt
  refine Lex.lexQ_normal (fun _ => ⟨E0, E1⟩) ?_
  refine Lex.lex_do rfl ?_
  clear E0 E1
  have cc := cb V1 hw1
  go_wp2_with fail
  refine cc.mono ?_
  rintro e V2 ⟨v2, rfl, hm2, hn2⟩
  have hb2 := hb1.trans (hn2.mono hb1.size)
  have hw2 := hw1.trans (hn2.mono hw1.size)
  have hm1 := hm1.below hn2
  clear cc hb1 hw1 hn2
  go_wp2_with fail
  have E0 := HF.out.below hb2 HF.out.lt
  have E1 := HG.out.below hb2 HG.out.lt
  refine Lex.lexQ_normal (fun _ => ⟨E0, E1⟩) ?_
  refine Lex.lex_do rfl ?_
  clear E0 E1
  have cc := cs V2 hw2 _ _ hm1 hm2
  go_wp2_with fail
  refine cc.mono ?_
  rintro e V3 ⟨v3, rfl, hm3, hn3⟩
  have hb3 := hb2.trans (hn3.mono hb2.size)
  have hw3 := hw2.trans (hn3.mono hw2.size)
  clear hm1 hm2
  clear cc hb2 hw2 hn3
  go_wp2_with fail
  have E0 := HF.out.below hb3 HF.out.lt
  have E1 := HG.out.below hb3 HG.out.lt
  refine Lex.lexQ_normal (fun _ => ⟨E0, E1⟩) ?_
  refine Lex.lex_do rfl ?_
  clear E0 E1
  have cc := cc V3 hw3
  go_wp2_with fail
  refine cc.mono ?_
  rintro e V4 ⟨v4, rfl, hm4, hn4⟩
  have hb4 := hb3.trans (hn4.mono hb3.size)
  have hw4 := hw3.trans (hn4.mono hw3.size)
  have hm3 := hm3.below hn4
  clear cc hb3 hw3 hn4
  go_wp2_with fail
  have E0 := HF.out.below hb4 HF.out.lt
  have E1 := HG.out.below hb4 HG.out.lt
  refine Lex.lexQ_normal (fun _ => ⟨E0, E1⟩) ?_
  refine Lex.lex_do rfl ?_
  clear E0 E1
  obtain ⟨p5, A5, n5, c5, rfl⟩ := hm3.agg'
  obtain ⟨p6, A6, n6, c6, rfl⟩ := hm4.agg'
  go_wp2_with fail
  have E0 := HF.out.below hb4 HF.out.lt
  have E1 := HG.out.below hb4 HG.out.lt
  refine Lex.lexQ_normal (fun _ => ⟨E0, E1⟩) ?_
  refine Lex.lex_do rfl ?_
  clear E0 E1
  have HR4 := HR.out.below hb4 HR.out.lt
  have r0 := HR4.cell0
  have r1 := HR4.cell1
  have r2 := HR4.cell2
  have r3 := HR4.cell3
  have g0 := HR4.free 0
  have g1 := HR4.free 1
  have g2 := HR4.free 2
  have g3 := HR4.free 3
  have HP := Lib.hid (hm3.storedQ (u0 := .bool p5.1) (u1 := .slice A5 n5 c5) (u2 := .bool p6.1) (u3 := .slice A6 n6 c6) HR4)
  have HQ := Lib.hid (hm4.storedQ (u0 := .bool p5.1) (u1 := .slice A5 n5 c5) (u2 := .bool p6.1) (u3 := .slice A6 n6 c6) HR4)
  have HBE := Lib.hid hw4
  clear HR4 hm3 hm4 hw4 hb4
  go_wp2_with fail
  refine Lex.lexQ_normal (fun h => absurd h (by decide)) ?_
  refine Lex.lex_nil ?_
  go_wp2
  refine bodyPost_ret (v := .agg #[.bool p5.1, .slice A5 n5 c5, .bool p6.1, .slice A6 n6 c6]) (by simp [results, Tryz.results39, go_sem, r0, r1, r2, r3]) rfl ⟨_, rfl, ⟨p5.1, _, p6.1, _, rfl, HP.out, HQ.out⟩, ?_⟩
  exact (((HBE.out.setCell (by simp; try omega) _).setCell (by simp; try omega) _).setCell (by simp; try omega) _).setCell (by simp; try omega) _

theorem fok_zero {s : Int} (h : FOk (0, s)) : s = 1 := by
  have h1 := h.1
  have h4 := h.2.2.2
  simp at h1 h4
  omega

set_option maxRecDepth 100000 in
set_option maxHeartbeats 1600000 in
theorem gsub_ok (p q r s : Int) (w : World) (h1 : FOk (p, q)) (h2 : FOk (r, s)) :
    Calls Tryz.prog 34 #[.agg #[.int .i64 p, .int .i64 q], .agg #[.int .i64 r, .int .i64 s]] w (RetV (lowV (p * s - r * q) (q * s)) w) := by
  have cv := fun W => valid_two (i64_lowf h1).1 (i64_lowf h1).2 (i64_lowf h2).1 (i64_lowf h2).2 true (decide_eq_true ⟨h1, h2⟩) W
  have q0 : 0 < q := by have := h1.1; simp at this; omega
  have s0 : 0 < s := by have := h2.1; simp at this; omega
  have hden : 0 < q * s := Int.mul_pos q0 s0
  have ca := from_w (i64_lowf h1).1 (i64_lowf h1).2 (w := w)
  have cb := from_w (i64_lowf h2).1 (i64_lowf h2).2 (w := w)
  have cm : ∀ W (_ : Below w.heap.size w W) u v, IsQ W u p q 2 → IsQ W v r s 2 → Calls Tryz.prog 78 #[u, v] W (RetQ (p * s - r * q) (q * s) 5 W) := fun W _ u v g1 g2 => qsub_any g1 g2 (by omega) (by omega)
  obtain ⟨fn, fd, fe, hf⟩ := fracV_form ((p * s - r * q) / (Int.gcd (p * s - r * q) (q * s) : Nat)) ((q * s) / (Int.gcd (p * s - r * q) (q * s) : Nat))
  have cf : ∀ W (_ : Below w.heap.size w W) u, IsQ W u (p * s - r * q) (q * s) 5 → Calls Tryz.prog 75 #[u] W (RetW (.tuple #[.agg #[.int .i64 fn, .int .i64 fd], .int .i64 fe]) W) := fun W _ u g => by
    have := frac_any g (by omega) hden
    rw [hf] at this
    exact this.mono fun e w' h => RetW.of h
  have hres : lowV (p * s - r * q) (q * s) = .tuple #[.agg #[.int .i64 fn, .int .i64 fd], .int .i64 fe] := hf
  rw [hres]
  clear q0
  clear h1 h2 hf hres hden s0
  obtain ⟨W3, hW3⟩ : ∃ W3, W3 = (((w.alloc (.cells #[.int .i64 p, .int .i64 q] 28)).alloc (.cells #[.int .i64 r, .int .i64 s] 28)).alloc (.cells #[.int .i64 0, .int .i64 0] 28)) := ⟨_, rfl⟩
  have hB : Below w.heap.size w W3 := by rw [hW3]; exact ((((Below.refl _ _).alloc (Nat.le_refl _) _).alloc (by simp; try omega) _).alloc (by simp; try omega) _)
  have HBW := Lib.hid hB
  have HF := Lib.hid (show Two W3 (w.heap.size) (.int .i64 p) (.int .i64 q) 28 by rw [hW3]; exact (((((Two.newAt _ _ _ _ _ (by simp))).alloc _)).alloc _))
  have HG := Lib.hid (show Two W3 (w.heap.size + 1) (.int .i64 r) (.int .i64 s) 28 by rw [hW3]; exact (((Two.newAt _ _ _ _ _ (by simp))).alloc _))
  have HR := Lib.hid (show Two W3 (w.heap.size + 1 + 1) (.int .i64 0) (.int .i64 0) 28 by rw [hW3]; exact (Two.newAt _ _ _ _ _ (by simp)))
  clear hB
  go_enter Tryz.func34, Tryz.ntmps34
  go_upto_region 1 with fail
  rw [← hW3]
  clear hW3
  have k0 := HF.out.cell0
  have k1 := HF.out.cell1
  have k2 := HG.out.cell0
  have k3 := HG.out.cell1
  have cc := cv W3
  go_wp2_with fail
  refine cc.mono ?_
  rintro e V1 ⟨v1, rfl, hm1, hb1⟩
  subst hm1
  have hw1 := HBW.out.trans (hb1.mono HBW.out.size)
  clear cc cv k0 k1 k2 k3
  have XF := Lib.hid (HF.out.below hb1 HF.out.lt)
  have XG := Lib.hid (HG.out.below hb1 HG.out.lt)
  have XR := Lib.hid (HR.out.below hb1 HR.out.lt)
  have XB := Lib.hid hw1
  clear hb1 hw1 HF HG HR HBW
  go_upto_region 3 with fail
  refine Lex.wp_region_lex (fun w' => Two w' w.heap.size (.int .i64 p) (.int .i64 q) 28 ∧ Two w' (w.heap.size + 1) (.int .i64 r) (.int .i64 s) 28) (fun _ => true)
    [(0, true), (2, true), (1, false), (3, false), (4, false), (5, false), (6, true), (7, true), (8, false), (9, false)]
    (by kernel_rfl) (by kernel_rfl) (by kernel_rfl) (by kernel_rfl) ⟨XF.out, XG.out⟩ ?_
  have hb2 : Below V1.heap.size V1 V1.drew := ⟨rfl, rfl, rfl, Nat.le_refl _, fun _ _ => rfl⟩
  have hw2 : Below w.heap.size w V1.drew := ⟨XB.out.os, XB.out.tape, XB.out.output, XB.out.size, XB.out.block⟩
  generalize hV0 : V1.drew = V2 at *
  clear hV0
  refine Lex.lex_take (v := ?_) rfl rfl (by rfl) (fun _ hS => ?_) ?_; rotate_left 1; (focus (have g0_0 := hS.1.cell0; have g0_1 := hS.1.cell1; have g1_0 := hS.2.cell0; have g1_1 := hS.2.cell1; clear hS; go_simp; with_reducible rfl)); simp only [List.setIfInBounds_toArray, List.set_cons_zero, List.set_cons_succ]
  refine Lex.lex_take (v := ?_) rfl rfl (by rfl) (fun _ hS => ?_) ?_; rotate_left 1; (focus (have g0_0 := hS.1.cell0; have g0_1 := hS.1.cell1; have g1_0 := hS.2.cell0; have g1_1 := hS.2.cell1; clear hS; go_simp; with_reducible rfl)); simp only [List.setIfInBounds_toArray, List.set_cons_zero, List.set_cons_succ]
  refine Lex.lex_do rfl ?_
  have cc := ca V2 hw2
  go_wp2_with fail
  refine cc.mono ?_
  rintro e V3 ⟨v3, rfl, hm3, hn3⟩
  have hb3 := hb2.trans (hn3.mono hb2.size)
  have hw3 := hw2.trans (hn3.mono hw2.size)
  clear cc hb2 hw2 hn3
  go_wp2_with fail
  refine Lex.lexQ_normal (fun _ => ⟨XF.out.below hb3 XF.out.lt, XG.out.below hb3 XG.out.lt⟩) ?_
  refine Lex.lex_do rfl ?_
  have cc := cb V3 hw3
  go_wp2_with fail
  refine cc.mono ?_
  rintro e V4 ⟨v4, rfl, hm4, hn4⟩
  have hb4 := hb3.trans (hn4.mono hb3.size)
  have hw4 := hw3.trans (hn4.mono hw3.size)
  have hm3 := hm3.below hn4
  clear cc hb3 hw3 hn4
  go_wp2_with fail
  refine Lex.lexQ_normal (fun _ => ⟨XF.out.below hb4 XF.out.lt, XG.out.below hb4 XG.out.lt⟩) ?_
  refine Lex.lex_do rfl ?_
  have cc := cm V4 hw4 _ _ hm3 hm4
  go_wp2_with fail
  refine cc.mono ?_
  rintro e V5 ⟨v5, rfl, hm5, hn5⟩
  have hb5 := hb4.trans (hn5.mono hb4.size)
  have hw5 := hw4.trans (hn5.mono hw4.size)
  clear hm3 hm4
  clear cc hb4 hw4 hn5
  go_wp2_with fail
  refine Lex.lexQ_normal (fun _ => ⟨XF.out.below hb5 XF.out.lt, XG.out.below hb5 XG.out.lt⟩) ?_
  refine Lex.lex_do rfl ?_
  have cc := cf V5 hw5 _ hm5
  go_wp2_with fail
  refine cc.mono ?_
  rintro e V6 ⟨v6, rfl, hm6, hn6⟩
  have hb6 := hb5.trans (hn6.mono hb5.size)
  have hw6 := hw5.trans (hn6.mono hw5.size)
  clear hm5
  subst hm6
  clear cc hb5 hw5 hn6
  go_wp2_with fail
  refine Lex.lexQ_normal (fun _ => ⟨XF.out.below hb6 XF.out.lt, XG.out.below hb6 XG.out.lt⟩) ?_
  refine Lex.lex_take (v := ?_) rfl rfl (by rfl) (fun _ hS => ?_) ?_; rotate_left 1; (focus (have g0_0 := hS.1.cell0; have g0_1 := hS.1.cell1; have g1_0 := hS.2.cell0; have g1_1 := hS.2.cell1; clear hS; go_simp; with_reducible rfl)); simp only [List.setIfInBounds_toArray, List.set_cons_zero, List.set_cons_succ]
  refine Lex.lex_take (v := ?_) rfl rfl (by rfl) (fun _ hS => ?_) ?_; rotate_left 1; (focus (have g0_0 := hS.1.cell0; have g0_1 := hS.1.cell1; have g1_0 := hS.2.cell0; have g1_1 := hS.2.cell1; clear hS; go_simp; with_reducible rfl)); simp only [List.setIfInBounds_toArray, List.set_cons_zero, List.set_cons_succ]
  refine Lex.lex_do rfl ?_
  have R := XR.out.below hb6 XR.out.lt
  have r0 := R.cell0
  have r1 := R.cell1
  have g0 := R.free 0
  have g1 := R.free 1
  have E0 := ((XF.out.below hb6 XF.out.lt).setOther ⟨w.heap.size + 1 + 1, 0, none⟩ (.int .i64 fn) (by dsimp only; omega)).setOther ⟨w.heap.size + 1 + 1, 1, none⟩ (.int .i64 fd) (by dsimp only; omega)
  have E1 := ((XG.out.below hb6 XG.out.lt).setOther ⟨w.heap.size + 1 + 1, 0, none⟩ (.int .i64 fn) (by dsimp only; omega)).setOther ⟨w.heap.size + 1 + 1, 1, none⟩ (.int .i64 fd) (by dsimp only; omega)
  have HE0 := Lib.hid E0
  have HE1 := Lib.hid E1
  have HE := Lib.hid hw6
  clear R E0 E1
  go_wp2_with fail
  refine Lex.lexQ_normal (fun _ => ⟨HE0.out, HE1.out⟩) ?_
  refine Lex.lex_do rfl ?_
  go_wp2_with fail
  refine Lex.lexQ_normal (fun _ => ⟨HE0.out, HE1.out⟩) ?_
  refine Lex.lex_nil ?_
  clear hb6 hw6
  go_wp2
  refine bodyPost_ret (v := .tuple #[.agg #[.int .i64 fn, .int .i64 fd], .int .i64 fe]) (by simp [results, Tryz.results34, go_sem, r0, r1]) rfl ⟨rfl, ?_⟩
  exact (HE.out.setCell (by dsimp only; omega) _).setCell (by dsimp only; omega) _

set_option maxRecDepth 100000 in
set_option maxHeartbeats 1600000 in
theorem gsub_bad (p q r s : Int) (w : World) (hp : I64 p) (hq : I64 q) (hr : I64 r) (hs : I64 s) (h : ¬ (FOk (p, q) ∧ FOk (r, s))) :
    Calls Tryz.prog 34 #[.agg #[.int .i64 p, .int .i64 q], .agg #[.int .i64 r, .int .i64 s]] w (RetV (.tuple #[.agg #[.int .i64 0, .int .i64 0], .int .i64 2]) w) := by
  have cv := fun W => valid_two hp hq hr hs false (decide_eq_false h) W
  clear h hp hq hr hs
  obtain ⟨W3, hW3⟩ : ∃ W3, W3 = (((w.alloc (.cells #[.int .i64 p, .int .i64 q] 28)).alloc (.cells #[.int .i64 r, .int .i64 s] 28)).alloc (.cells #[.int .i64 0, .int .i64 0] 28)) := ⟨_, rfl⟩
  have hB : Below w.heap.size w W3 := by rw [hW3]; exact ((((Below.refl _ _).alloc (Nat.le_refl _) _).alloc (by simp; try omega) _).alloc (by simp; try omega) _)
  have HBW := Lib.hid hB
  have HF := Lib.hid (show Two W3 (w.heap.size) (.int .i64 p) (.int .i64 q) 28 by rw [hW3]; exact (((((Two.newAt _ _ _ _ _ (by simp))).alloc _)).alloc _))
  have HG := Lib.hid (show Two W3 (w.heap.size + 1) (.int .i64 r) (.int .i64 s) 28 by rw [hW3]; exact (((Two.newAt _ _ _ _ _ (by simp))).alloc _))
  have HR := Lib.hid (show Two W3 (w.heap.size + 1 + 1) (.int .i64 0) (.int .i64 0) 28 by rw [hW3]; exact (Two.newAt _ _ _ _ _ (by simp)))
  clear hB
  go_enter Tryz.func34, Tryz.ntmps34
  go_upto_region 1 with fail
  rw [← hW3]
  clear hW3
  have k0 := HF.out.cell0
  have k1 := HF.out.cell1
  have k2 := HG.out.cell0
  have k3 := HG.out.cell1
  have cc := cv W3
  go_wp2_with fail
  refine cc.mono ?_
  rintro e V1 ⟨v1, rfl, hm1, hb1⟩
  subst hm1
  have hw1 := HBW.out.trans (hb1.mono HBW.out.size)
  clear cc cv k0 k1 k2 k3
  have R := HR.out.below hb1 HR.out.lt
  have HW := Lib.hid hw1
  have r0 := R.cell0
  have r1 := R.cell1
  have g0 := R.free 0
  have g1 := R.free 1
  clear hb1 hw1 R
  go_wp2
  refine bodyPost_ret (v := .tuple #[.agg #[.int .i64 0, .int .i64 0], .int .i64 2]) (by simp [results, Tryz.results34, go_sem, r0, r1]) rfl ⟨rfl, ?_⟩
  exact (HW.out.setCell (by dsimp only; omega) _).setCell (by dsimp only; omega) _

set_option maxRecDepth 100000 in
set_option maxHeartbeats 1600000 in
theorem gdiv_pos (p q r s : Int) (w : World) (h1 : FOk (p, q)) (h2 : FOk (r, s)) (hr : 0 < r) :
    Calls Tryz.prog 35 #[.agg #[.int .i64 p, .int .i64 q], .agg #[.int .i64 r, .int .i64 s]] w (RetV (lowV (p * s) (q * r)) w) := by
  have cv := fun W => valid_two (i64_lowf h1).1 (i64_lowf h1).2 (i64_lowf h2).1 (i64_lowf h2).2 true (decide_eq_true ⟨h1, h2⟩) W
  have q0 : 0 < q := by have := h1.1; simp at this; omega
  have s0 : 0 < s := by have := h2.1; simp at this; omega
  have hden : 0 < q * r := Int.mul_pos q0 hr
  have ca := from_w (i64_lowf h1).1 (i64_lowf h1).2 (w := w)
  have cb := from_w (i64_lowf h2).1 (i64_lowf h2).2 (w := w)
  have cm : ∀ W (_ : Below w.heap.size w W) u v, IsQ W u p q 2 → IsQ W v r s 2 → Calls Tryz.prog 79 #[u, v] W (RetQ (p * s) (q * r) 4 W) := fun W _ u v g1 g2 => qdiv_pos g1 g2 (by omega) (by omega) hden
  obtain ⟨fn, fd, fe, hf⟩ := fracV_form ((p * s) / (Int.gcd (p * s) (q * r) : Nat)) ((q * r) / (Int.gcd (p * s) (q * r) : Nat))
  have cf : ∀ W (_ : Below w.heap.size w W) u, IsQ W u (p * s) (q * r) 4 → Calls Tryz.prog 75 #[u] W (RetW (.tuple #[.agg #[.int .i64 fn, .int .i64 fd], .int .i64 fe]) W) := fun W _ u g => by
    have := frac_any g (by omega) hden
    rw [hf] at this
    exact this.mono fun e w' h => RetW.of h
  have hres : lowV (p * s) (q * r) = .tuple #[.agg #[.int .i64 fn, .int .i64 fd], .int .i64 fe] := hf
  rw [hres]
  have hr0 : ¬ r = 0 := by omega
  clear h1 h2 hf hres hden s0
  obtain ⟨W3, hW3⟩ : ∃ W3, W3 = (((w.alloc (.cells #[.int .i64 p, .int .i64 q] 28)).alloc (.cells #[.int .i64 r, .int .i64 s] 28)).alloc (.cells #[.int .i64 0, .int .i64 0] 28)) := ⟨_, rfl⟩
  have hB : Below w.heap.size w W3 := by rw [hW3]; exact ((((Below.refl _ _).alloc (Nat.le_refl _) _).alloc (by simp; try omega) _).alloc (by simp; try omega) _)
  have HBW := Lib.hid hB
  have HF := Lib.hid (show Two W3 (w.heap.size) (.int .i64 p) (.int .i64 q) 28 by rw [hW3]; exact (((((Two.newAt _ _ _ _ _ (by simp))).alloc _)).alloc _))
  have HG := Lib.hid (show Two W3 (w.heap.size + 1) (.int .i64 r) (.int .i64 s) 28 by rw [hW3]; exact (((Two.newAt _ _ _ _ _ (by simp))).alloc _))
  have HR := Lib.hid (show Two W3 (w.heap.size + 1 + 1) (.int .i64 0) (.int .i64 0) 28 by rw [hW3]; exact (Two.newAt _ _ _ _ _ (by simp)))
  clear hB
  go_enter Tryz.func35, Tryz.ntmps35
  go_upto_region 1 with fail
  rw [← hW3]
  clear hW3
  have k0 := HF.out.cell0
  have k1 := HF.out.cell1
  have k2 := HG.out.cell0
  have k3 := HG.out.cell1
  have cc := cv W3
  go_wp2_with fail
  refine cc.mono ?_
  rintro e V1 ⟨v1, rfl, hm1, hb1⟩
  subst hm1
  have hw1 := HBW.out.trans (hb1.mono HBW.out.size)
  clear cc cv k0 k1 k2 k3
  have XF := Lib.hid (HF.out.below hb1 HF.out.lt)
  have XG := Lib.hid (HG.out.below hb1 HG.out.lt)
  have XR := Lib.hid (HR.out.below hb1 HR.out.lt)
  have XB := Lib.hid hw1
  clear hb1 hw1 HF HG HR HBW
  have k2 := XG.out.cell0
  have k3 := XG.out.cell1
  go_upto_region 5 with fail
  clear k2 k3
  refine Lex.wp_region_lex (fun w' => Two w' w.heap.size (.int .i64 p) (.int .i64 q) 28 ∧ Two w' (w.heap.size + 1) (.int .i64 r) (.int .i64 s) 28) (fun _ => true)
    [(0, true), (2, true), (1, false), (3, false), (4, false), (5, false), (6, true), (7, true), (8, false), (9, false)]
    (by kernel_rfl) (by kernel_rfl) (by kernel_rfl) (by kernel_rfl) ⟨XF.out, XG.out⟩ ?_
  have hb2 : Below V1.heap.size V1 V1.drew := ⟨rfl, rfl, rfl, Nat.le_refl _, fun _ _ => rfl⟩
  have hw2 : Below w.heap.size w V1.drew := ⟨XB.out.os, XB.out.tape, XB.out.output, XB.out.size, XB.out.block⟩
  generalize hV0 : V1.drew = V2 at *
  clear hV0
  refine Lex.lex_take (v := ?_) rfl rfl (by rfl) (fun _ hS => ?_) ?_; rotate_left 1; (focus (have g0_0 := hS.1.cell0; have g0_1 := hS.1.cell1; have g1_0 := hS.2.cell0; have g1_1 := hS.2.cell1; clear hS; go_simp; with_reducible rfl)); simp only [List.setIfInBounds_toArray, List.set_cons_zero, List.set_cons_succ]
  refine Lex.lex_take (v := ?_) rfl rfl (by rfl) (fun _ hS => ?_) ?_; rotate_left 1; (focus (have g0_0 := hS.1.cell0; have g0_1 := hS.1.cell1; have g1_0 := hS.2.cell0; have g1_1 := hS.2.cell1; clear hS; go_simp; with_reducible rfl)); simp only [List.setIfInBounds_toArray, List.set_cons_zero, List.set_cons_succ]
  refine Lex.lex_do rfl ?_
  have cc := ca V2 hw2
  go_wp2_with fail
  refine cc.mono ?_
  rintro e V3 ⟨v3, rfl, hm3, hn3⟩
  have hb3 := hb2.trans (hn3.mono hb2.size)
  have hw3 := hw2.trans (hn3.mono hw2.size)
  clear cc hb2 hw2 hn3
  go_wp2_with fail
  refine Lex.lexQ_normal (fun _ => ⟨XF.out.below hb3 XF.out.lt, XG.out.below hb3 XG.out.lt⟩) ?_
  refine Lex.lex_do rfl ?_
  have cc := cb V3 hw3
  go_wp2_with fail
  refine cc.mono ?_
  rintro e V4 ⟨v4, rfl, hm4, hn4⟩
  have hb4 := hb3.trans (hn4.mono hb3.size)
  have hw4 := hw3.trans (hn4.mono hw3.size)
  have hm3 := hm3.below hn4
  clear cc hb3 hw3 hn4
  go_wp2_with fail
  refine Lex.lexQ_normal (fun _ => ⟨XF.out.below hb4 XF.out.lt, XG.out.below hb4 XG.out.lt⟩) ?_
  refine Lex.lex_do rfl ?_
  have cc := cm V4 hw4 _ _ hm3 hm4
  go_wp2_with fail
  refine cc.mono ?_
  rintro e V5 ⟨v5, rfl, hm5, hn5⟩
  have hb5 := hb4.trans (hn5.mono hb4.size)
  have hw5 := hw4.trans (hn5.mono hw4.size)
  clear hm3 hm4
  clear cc hb4 hw4 hn5
  go_wp2_with fail
  refine Lex.lexQ_normal (fun _ => ⟨XF.out.below hb5 XF.out.lt, XG.out.below hb5 XG.out.lt⟩) ?_
  refine Lex.lex_do rfl ?_
  have cc := cf V5 hw5 _ hm5
  go_wp2_with fail
  refine cc.mono ?_
  rintro e V6 ⟨v6, rfl, hm6, hn6⟩
  have hb6 := hb5.trans (hn6.mono hb5.size)
  have hw6 := hw5.trans (hn6.mono hw5.size)
  clear hm5
  subst hm6
  clear cc hb5 hw5 hn6
  go_wp2_with fail
  refine Lex.lexQ_normal (fun _ => ⟨XF.out.below hb6 XF.out.lt, XG.out.below hb6 XG.out.lt⟩) ?_
  refine Lex.lex_take (v := ?_) rfl rfl (by rfl) (fun _ hS => ?_) ?_; rotate_left 1; (focus (have g0_0 := hS.1.cell0; have g0_1 := hS.1.cell1; have g1_0 := hS.2.cell0; have g1_1 := hS.2.cell1; clear hS; go_simp; with_reducible rfl)); simp only [List.setIfInBounds_toArray, List.set_cons_zero, List.set_cons_succ]
  refine Lex.lex_take (v := ?_) rfl rfl (by rfl) (fun _ hS => ?_) ?_; rotate_left 1; (focus (have g0_0 := hS.1.cell0; have g0_1 := hS.1.cell1; have g1_0 := hS.2.cell0; have g1_1 := hS.2.cell1; clear hS; go_simp; with_reducible rfl)); simp only [List.setIfInBounds_toArray, List.set_cons_zero, List.set_cons_succ]
  refine Lex.lex_do rfl ?_
  have R := XR.out.below hb6 XR.out.lt
  have r0 := R.cell0
  have r1 := R.cell1
  have g0 := R.free 0
  have g1 := R.free 1
  have E0 := ((XF.out.below hb6 XF.out.lt).setOther ⟨w.heap.size + 1 + 1, 0, none⟩ (.int .i64 fn) (by dsimp only; omega)).setOther ⟨w.heap.size + 1 + 1, 1, none⟩ (.int .i64 fd) (by dsimp only; omega)
  have E1 := ((XG.out.below hb6 XG.out.lt).setOther ⟨w.heap.size + 1 + 1, 0, none⟩ (.int .i64 fn) (by dsimp only; omega)).setOther ⟨w.heap.size + 1 + 1, 1, none⟩ (.int .i64 fd) (by dsimp only; omega)
  have HE0 := Lib.hid E0
  have HE1 := Lib.hid E1
  have HE := Lib.hid hw6
  clear R E0 E1
  go_wp2_with fail
  refine Lex.lexQ_normal (fun _ => ⟨HE0.out, HE1.out⟩) ?_
  refine Lex.lex_do rfl ?_
  go_wp2_with fail
  refine Lex.lexQ_normal (fun _ => ⟨HE0.out, HE1.out⟩) ?_
  refine Lex.lex_nil ?_
  clear hb6 hw6
  go_wp2
  refine bodyPost_ret (v := .tuple #[.agg #[.int .i64 fn, .int .i64 fd], .int .i64 fe]) (by simp [results, Tryz.results35, go_sem, r0, r1]) rfl ⟨rfl, ?_⟩
  exact (HE.out.setCell (by dsimp only; omega) _).setCell (by dsimp only; omega) _

set_option maxRecDepth 100000 in
set_option maxHeartbeats 1600000 in
theorem gdiv_neg (p q r s : Int) (w : World) (h1 : FOk (p, q)) (h2 : FOk (r, s)) (hr : r < 0) :
    Calls Tryz.prog 35 #[.agg #[.int .i64 p, .int .i64 q], .agg #[.int .i64 r, .int .i64 s]] w (RetV (lowV (-(p * s)) (-(q * r))) w) := by
  have cv := fun W => valid_two (i64_lowf h1).1 (i64_lowf h1).2 (i64_lowf h2).1 (i64_lowf h2).2 true (decide_eq_true ⟨h1, h2⟩) W
  have q0 : 0 < q := by have := h1.1; simp at this; omega
  have s0 : 0 < s := by have := h2.1; simp at this; omega
  have hden : 0 < -(q * r) := by have := Int.mul_neg_of_pos_of_neg q0 hr; omega
  have ca := from_w (i64_lowf h1).1 (i64_lowf h1).2 (w := w)
  have cb := from_w (i64_lowf h2).1 (i64_lowf h2).2 (w := w)
  have cm : ∀ W (_ : Below w.heap.size w W) u v, IsQ W u p q 2 → IsQ W v r s 2 → Calls Tryz.prog 79 #[u, v] W (RetQ (-(p * s)) (-(q * r)) 4 W) := fun W _ u v g1 g2 => qdiv_neg g1 g2 (by omega) (by omega) (by omega)
  obtain ⟨fn, fd, fe, hf⟩ := fracV_form ((-(p * s)) / (Int.gcd (-(p * s)) (-(q * r)) : Nat)) ((-(q * r)) / (Int.gcd (-(p * s)) (-(q * r)) : Nat))
  have cf : ∀ W (_ : Below w.heap.size w W) u, IsQ W u (-(p * s)) (-(q * r)) 4 → Calls Tryz.prog 75 #[u] W (RetW (.tuple #[.agg #[.int .i64 fn, .int .i64 fd], .int .i64 fe]) W) := fun W _ u g => by
    have := frac_any g (by omega) hden
    rw [hf] at this
    exact this.mono fun e w' h => RetW.of h
  have hres : lowV (-(p * s)) (-(q * r)) = .tuple #[.agg #[.int .i64 fn, .int .i64 fd], .int .i64 fe] := hf
  rw [hres]
  have hr0 : ¬ r = 0 := by omega
  clear h1 h2 hf hres hden s0
  obtain ⟨W3, hW3⟩ : ∃ W3, W3 = (((w.alloc (.cells #[.int .i64 p, .int .i64 q] 28)).alloc (.cells #[.int .i64 r, .int .i64 s] 28)).alloc (.cells #[.int .i64 0, .int .i64 0] 28)) := ⟨_, rfl⟩
  have hB : Below w.heap.size w W3 := by rw [hW3]; exact ((((Below.refl _ _).alloc (Nat.le_refl _) _).alloc (by simp; try omega) _).alloc (by simp; try omega) _)
  have HBW := Lib.hid hB
  have HF := Lib.hid (show Two W3 (w.heap.size) (.int .i64 p) (.int .i64 q) 28 by rw [hW3]; exact (((((Two.newAt _ _ _ _ _ (by simp))).alloc _)).alloc _))
  have HG := Lib.hid (show Two W3 (w.heap.size + 1) (.int .i64 r) (.int .i64 s) 28 by rw [hW3]; exact (((Two.newAt _ _ _ _ _ (by simp))).alloc _))
  have HR := Lib.hid (show Two W3 (w.heap.size + 1 + 1) (.int .i64 0) (.int .i64 0) 28 by rw [hW3]; exact (Two.newAt _ _ _ _ _ (by simp)))
  clear hB
  go_enter Tryz.func35, Tryz.ntmps35
  go_upto_region 1 with fail
  rw [← hW3]
  clear hW3
  have k0 := HF.out.cell0
  have k1 := HF.out.cell1
  have k2 := HG.out.cell0
  have k3 := HG.out.cell1
  have cc := cv W3
  go_wp2_with fail
  refine cc.mono ?_
  rintro e V1 ⟨v1, rfl, hm1, hb1⟩
  subst hm1
  have hw1 := HBW.out.trans (hb1.mono HBW.out.size)
  clear cc cv k0 k1 k2 k3
  have XF := Lib.hid (HF.out.below hb1 HF.out.lt)
  have XG := Lib.hid (HG.out.below hb1 HG.out.lt)
  have XR := Lib.hid (HR.out.below hb1 HR.out.lt)
  have XB := Lib.hid hw1
  clear hb1 hw1 HF HG HR HBW
  have k2 := XG.out.cell0
  have k3 := XG.out.cell1
  go_upto_region 5 with fail
  clear k2 k3
  refine Lex.wp_region_lex (fun w' => Two w' w.heap.size (.int .i64 p) (.int .i64 q) 28 ∧ Two w' (w.heap.size + 1) (.int .i64 r) (.int .i64 s) 28) (fun _ => true)
    [(0, true), (2, true), (1, false), (3, false), (4, false), (5, false), (6, true), (7, true), (8, false), (9, false)]
    (by kernel_rfl) (by kernel_rfl) (by kernel_rfl) (by kernel_rfl) ⟨XF.out, XG.out⟩ ?_
  have hb2 : Below V1.heap.size V1 V1.drew := ⟨rfl, rfl, rfl, Nat.le_refl _, fun _ _ => rfl⟩
  have hw2 : Below w.heap.size w V1.drew := ⟨XB.out.os, XB.out.tape, XB.out.output, XB.out.size, XB.out.block⟩
  generalize hV0 : V1.drew = V2 at *
  clear hV0
  refine Lex.lex_take (v := ?_) rfl rfl (by rfl) (fun _ hS => ?_) ?_; rotate_left 1; (focus (have g0_0 := hS.1.cell0; have g0_1 := hS.1.cell1; have g1_0 := hS.2.cell0; have g1_1 := hS.2.cell1; clear hS; go_simp; with_reducible rfl)); simp only [List.setIfInBounds_toArray, List.set_cons_zero, List.set_cons_succ]
  refine Lex.lex_take (v := ?_) rfl rfl (by rfl) (fun _ hS => ?_) ?_; rotate_left 1; (focus (have g0_0 := hS.1.cell0; have g0_1 := hS.1.cell1; have g1_0 := hS.2.cell0; have g1_1 := hS.2.cell1; clear hS; go_simp; with_reducible rfl)); simp only [List.setIfInBounds_toArray, List.set_cons_zero, List.set_cons_succ]
  refine Lex.lex_do rfl ?_
  have cc := ca V2 hw2
  go_wp2_with fail
  refine cc.mono ?_
  rintro e V3 ⟨v3, rfl, hm3, hn3⟩
  have hb3 := hb2.trans (hn3.mono hb2.size)
  have hw3 := hw2.trans (hn3.mono hw2.size)
  clear cc hb2 hw2 hn3
  go_wp2_with fail
  refine Lex.lexQ_normal (fun _ => ⟨XF.out.below hb3 XF.out.lt, XG.out.below hb3 XG.out.lt⟩) ?_
  refine Lex.lex_do rfl ?_
  have cc := cb V3 hw3
  go_wp2_with fail
  refine cc.mono ?_
  rintro e V4 ⟨v4, rfl, hm4, hn4⟩
  have hb4 := hb3.trans (hn4.mono hb3.size)
  have hw4 := hw3.trans (hn4.mono hw3.size)
  have hm3 := hm3.below hn4
  clear cc hb3 hw3 hn4
  go_wp2_with fail
  refine Lex.lexQ_normal (fun _ => ⟨XF.out.below hb4 XF.out.lt, XG.out.below hb4 XG.out.lt⟩) ?_
  refine Lex.lex_do rfl ?_
  have cc := cm V4 hw4 _ _ hm3 hm4
  go_wp2_with fail
  refine cc.mono ?_
  rintro e V5 ⟨v5, rfl, hm5, hn5⟩
  have hb5 := hb4.trans (hn5.mono hb4.size)
  have hw5 := hw4.trans (hn5.mono hw4.size)
  clear hm3 hm4
  clear cc hb4 hw4 hn5
  go_wp2_with fail
  refine Lex.lexQ_normal (fun _ => ⟨XF.out.below hb5 XF.out.lt, XG.out.below hb5 XG.out.lt⟩) ?_
  refine Lex.lex_do rfl ?_
  have cc := cf V5 hw5 _ hm5
  go_wp2_with fail
  refine cc.mono ?_
  rintro e V6 ⟨v6, rfl, hm6, hn6⟩
  have hb6 := hb5.trans (hn6.mono hb5.size)
  have hw6 := hw5.trans (hn6.mono hw5.size)
  clear hm5
  subst hm6
  clear cc hb5 hw5 hn6
  go_wp2_with fail
  refine Lex.lexQ_normal (fun _ => ⟨XF.out.below hb6 XF.out.lt, XG.out.below hb6 XG.out.lt⟩) ?_
  refine Lex.lex_take (v := ?_) rfl rfl (by rfl) (fun _ hS => ?_) ?_; rotate_left 1; (focus (have g0_0 := hS.1.cell0; have g0_1 := hS.1.cell1; have g1_0 := hS.2.cell0; have g1_1 := hS.2.cell1; clear hS; go_simp; with_reducible rfl)); simp only [List.setIfInBounds_toArray, List.set_cons_zero, List.set_cons_succ]
  refine Lex.lex_take (v := ?_) rfl rfl (by rfl) (fun _ hS => ?_) ?_; rotate_left 1; (focus (have g0_0 := hS.1.cell0; have g0_1 := hS.1.cell1; have g1_0 := hS.2.cell0; have g1_1 := hS.2.cell1; clear hS; go_simp; with_reducible rfl)); simp only [List.setIfInBounds_toArray, List.set_cons_zero, List.set_cons_succ]
  refine Lex.lex_do rfl ?_
  have R := XR.out.below hb6 XR.out.lt
  have r0 := R.cell0
  have r1 := R.cell1
  have g0 := R.free 0
  have g1 := R.free 1
  have E0 := ((XF.out.below hb6 XF.out.lt).setOther ⟨w.heap.size + 1 + 1, 0, none⟩ (.int .i64 fn) (by dsimp only; omega)).setOther ⟨w.heap.size + 1 + 1, 1, none⟩ (.int .i64 fd) (by dsimp only; omega)
  have E1 := ((XG.out.below hb6 XG.out.lt).setOther ⟨w.heap.size + 1 + 1, 0, none⟩ (.int .i64 fn) (by dsimp only; omega)).setOther ⟨w.heap.size + 1 + 1, 1, none⟩ (.int .i64 fd) (by dsimp only; omega)
  have HE0 := Lib.hid E0
  have HE1 := Lib.hid E1
  have HE := Lib.hid hw6
  clear R E0 E1
  go_wp2_with fail
  refine Lex.lexQ_normal (fun _ => ⟨HE0.out, HE1.out⟩) ?_
  refine Lex.lex_do rfl ?_
  go_wp2_with fail
  refine Lex.lexQ_normal (fun _ => ⟨HE0.out, HE1.out⟩) ?_
  refine Lex.lex_nil ?_
  clear hb6 hw6
  go_wp2
  refine bodyPost_ret (v := .tuple #[.agg #[.int .i64 fn, .int .i64 fd], .int .i64 fe]) (by simp [results, Tryz.results35, go_sem, r0, r1]) rfl ⟨rfl, ?_⟩
  exact (HE.out.setCell (by dsimp only; omega) _).setCell (by dsimp only; omega) _

set_option maxRecDepth 100000 in
set_option maxHeartbeats 1600000 in
theorem gdiv_bad (p q r s : Int) (w : World) (hp : I64 p) (hq : I64 q) (hr : I64 r) (hs : I64 s) (h : ¬ (FOk (p, q) ∧ FOk (r, s))) :
    Calls Tryz.prog 35 #[.agg #[.int .i64 p, .int .i64 q], .agg #[.int .i64 r, .int .i64 s]] w (RetV (.tuple #[.agg #[.int .i64 0, .int .i64 0], .int .i64 2]) w) := by
  have cv := fun W => valid_two hp hq hr hs false (decide_eq_false h) W
  clear h hp hq hr hs
  obtain ⟨W3, hW3⟩ : ∃ W3, W3 = (((w.alloc (.cells #[.int .i64 p, .int .i64 q] 28)).alloc (.cells #[.int .i64 r, .int .i64 s] 28)).alloc (.cells #[.int .i64 0, .int .i64 0] 28)) := ⟨_, rfl⟩
  have hB : Below w.heap.size w W3 := by rw [hW3]; exact ((((Below.refl _ _).alloc (Nat.le_refl _) _).alloc (by simp; try omega) _).alloc (by simp; try omega) _)
  have HBW := Lib.hid hB
  have HF := Lib.hid (show Two W3 (w.heap.size) (.int .i64 p) (.int .i64 q) 28 by rw [hW3]; exact (((((Two.newAt _ _ _ _ _ (by simp))).alloc _)).alloc _))
  have HG := Lib.hid (show Two W3 (w.heap.size + 1) (.int .i64 r) (.int .i64 s) 28 by rw [hW3]; exact (((Two.newAt _ _ _ _ _ (by simp))).alloc _))
  have HR := Lib.hid (show Two W3 (w.heap.size + 1 + 1) (.int .i64 0) (.int .i64 0) 28 by rw [hW3]; exact (Two.newAt _ _ _ _ _ (by simp)))
  clear hB
  go_enter Tryz.func35, Tryz.ntmps35
  go_upto_region 1 with fail
  rw [← hW3]
  clear hW3
  have k0 := HF.out.cell0
  have k1 := HF.out.cell1
  have k2 := HG.out.cell0
  have k3 := HG.out.cell1
  have cc := cv W3
  go_wp2_with fail
  refine cc.mono ?_
  rintro e V1 ⟨v1, rfl, hm1, hb1⟩
  subst hm1
  have hw1 := HBW.out.trans (hb1.mono HBW.out.size)
  clear cc cv k0 k1 k2 k3
  have R := HR.out.below hb1 HR.out.lt
  have HW := Lib.hid hw1
  have r0 := R.cell0
  have r1 := R.cell1
  have g0 := R.free 0
  have g1 := R.free 1
  clear hb1 hw1 R
  go_wp2
  refine bodyPost_ret (v := .tuple #[.agg #[.int .i64 0, .int .i64 0], .int .i64 2]) (by simp [results, Tryz.results35, go_sem, r0, r1]) rfl ⟨rfl, ?_⟩
  exact (HW.out.setCell (by dsimp only; omega) _).setCell (by dsimp only; omega) _

set_option maxRecDepth 100000 in
set_option maxHeartbeats 1600000 in
theorem gdiv_zero (p q r s : Int) (w : World) (h1 : FOk (p, q)) (h2 : FOk (r, s)) (h0 : r = 0) :
    Calls Tryz.prog 35 #[.agg #[.int .i64 p, .int .i64 q], .agg #[.int .i64 r, .int .i64 s]] w (RetV (.tuple #[.agg #[.int .i64 0, .int .i64 0], .int .i64 4]) w) := by
  have cv := fun W => valid_two (i64_lowf h1).1 (i64_lowf h1).2 (i64_lowf h2).1 (i64_lowf h2).2 true (decide_eq_true ⟨h1, h2⟩) W
  obtain rfl : r = 0 := h0
  obtain rfl : s = 1 := fok_zero h2
  clear h1 h2
  obtain ⟨W3, hW3⟩ : ∃ W3, W3 = (((w.alloc (.cells #[.int .i64 p, .int .i64 q] 28)).alloc (.cells #[.int .i64 0, .int .i64 1] 28)).alloc (.cells #[.int .i64 0, .int .i64 0] 28)) := ⟨_, rfl⟩
  have hB : Below w.heap.size w W3 := by rw [hW3]; exact ((((Below.refl _ _).alloc (Nat.le_refl _) _).alloc (by simp; try omega) _).alloc (by simp; try omega) _)
  have HBW := Lib.hid hB
  have HF := Lib.hid (show Two W3 (w.heap.size) (.int .i64 p) (.int .i64 q) 28 by rw [hW3]; exact (((((Two.newAt _ _ _ _ _ (by simp))).alloc _)).alloc _))
  have HG := Lib.hid (show Two W3 (w.heap.size + 1) (.int .i64 0) (.int .i64 1) 28 by rw [hW3]; exact (((Two.newAt _ _ _ _ _ (by simp))).alloc _))
  have HR := Lib.hid (show Two W3 (w.heap.size + 1 + 1) (.int .i64 0) (.int .i64 0) 28 by rw [hW3]; exact (Two.newAt _ _ _ _ _ (by simp)))
  clear hB
  go_enter Tryz.func35, Tryz.ntmps35
  go_upto_region 1 with fail
  rw [← hW3]
  clear hW3
  have k0 := HF.out.cell0
  have k1 := HF.out.cell1
  have k2 := HG.out.cell0
  have k3 := HG.out.cell1
  have cc := cv W3
  go_wp2_with fail
  refine cc.mono ?_
  rintro e V1 ⟨v1, rfl, hm1, hb1⟩
  subst hm1
  have hw1 := HBW.out.trans (hb1.mono HBW.out.size)
  clear cc cv k0 k1 k2 k3
  have k2 := (HG.out.below hb1 HG.out.lt).cell0
  have k3 := (HG.out.below hb1 HG.out.lt).cell1
  have R := HR.out.below hb1 HR.out.lt
  have HW := Lib.hid hw1
  have r0 := R.cell0
  have r1 := R.cell1
  have g0 := R.free 0
  have g1 := R.free 1
  clear hb1 hw1 R
  go_wp2
  refine bodyPost_ret (v := .tuple #[.agg #[.int .i64 0, .int .i64 0], .int .i64 4]) (by simp [results, Tryz.results35, go_sem, r0, r1]) rfl ⟨rfl, ?_⟩
  exact (HW.out.setCell (by dsimp only; omega) _).setCell (by dsimp only; omega) _

set_option maxRecDepth 100000 in
set_option maxHeartbeats 1600000 in
theorem check_any (p q : Int) (w : World) (hp : I64 p) (hq : I64 q) (b : Bool) (hb : decide (FOk (p, q)) = b) :
    Calls Tryz.prog 29 #[.agg #[.int .i64 p, .int .i64 q]] w (RetV (.int .i64 (if b then 0 else 2)) w) := by
  have cv := fun W => valid_one hp hq b hb W
  clear hb hp hq
  cases b
  all_goals
    obtain ⟨W3, hW3⟩ : ∃ W3, W3 = (w.alloc (.cells #[.int .i64 p, .int .i64 q] 28)) := ⟨_, rfl⟩
    have hB : Below w.heap.size w W3 := by rw [hW3]; exact ((Below.refl _ _).alloc (Nat.le_refl _) _)
    have HBW := Lib.hid hB
    have HF := Lib.hid (show Two W3 (w.heap.size) (.int .i64 p) (.int .i64 q) 28 by rw [hW3]; exact (Two.newAt _ _ _ _ _ (by simp)))
    clear hB
    go_enter Tryz.func29, Tryz.ntmps29
    go_upto_region 1 with fail
    rw [← hW3]
    clear hW3
    have k0 := HF.out.cell0
    have k1 := HF.out.cell1
    have cc := cv W3
    go_wp2_with fail
    refine cc.mono ?_
    rintro e V1 ⟨v1, rfl, rfl, hn⟩
    have HE := Lib.hid (HBW.out.trans (hn.mono HBW.out.size))
    clear cc cv k0 k1 hn
    go_wp2
    go_ret
    exact ⟨rfl, HE.out⟩

set_option maxRecDepth 100000 in
set_option maxHeartbeats 1600000 in
theorem form_any (b : Bool) (w : World) : Calls Tryz.prog 30 #[.bool b] w (RetV (.int .i64 (if b then 0 else 2)) w) := by
  cases b
  all_goals
    go_enter Tryz.func30, Tryz.ntmps30
    go_wp2
    go_ret
    exact ⟨rfl, Below.refl _ _⟩

set_option maxRecDepth 100000 in
set_option maxHeartbeats 1600000 in
theorem ladd_ok {p q r s n d : Int} (w : World) (h1 : FOk (p, q)) (h2 : FOk (r, s)) (hv : lowV (p * s + r * q) (q * s) = .tuple #[.agg #[.int .i64 n, .int .i64 d], .int .i64 0]) :
    Calls Tryz.prog 32 #[.agg #[.int .i64 p, .int .i64 q], .agg #[.int .i64 r, .int .i64 s]] w (RetV (.agg #[.int .i64 n, .int .i64 d]) w) := by
  have cg : ∀ W (_ : Below w.heap.size w W), Calls Tryz.prog 36 #[.agg #[.int .i64 p, .int .i64 q], .agg #[.int .i64 r, .int .i64 s]] W (RetW (.tuple #[.agg #[.int .i64 n, .int .i64 d], .int .i64 0]) W) := fun W _ => by
    rw [← hv]
    exact (gadd_ok p q r s W (i64_lowf h1).1 (i64_lowf h1).2 (i64_lowf h2).1 (i64_lowf h2).2 h1 h2).mono fun e w' h => RetW.of h
  clear h1 h2 hv
  obtain ⟨W3, hW3⟩ : ∃ W3, W3 = (((w.alloc (.cells #[.int .i64 p, .int .i64 q] 28)).alloc (.cells #[.int .i64 r, .int .i64 s] 28)).alloc (.cells #[.int .i64 0, .int .i64 0] 28)) := ⟨_, rfl⟩
  have hB : Below w.heap.size w W3 := by rw [hW3]; exact ((((Below.refl _ _).alloc (Nat.le_refl _) _).alloc (by simp; try omega) _).alloc (by simp; try omega) _)
  have HBW := Lib.hid hB
  have HF := Lib.hid (show Two W3 (w.heap.size) (.int .i64 p) (.int .i64 q) 28 by rw [hW3]; exact (((((Two.newAt _ _ _ _ _ (by simp))).alloc _)).alloc _))
  have HG := Lib.hid (show Two W3 (w.heap.size + 1) (.int .i64 r) (.int .i64 s) 28 by rw [hW3]; exact (((Two.newAt _ _ _ _ _ (by simp))).alloc _))
  have HR := Lib.hid (show Two W3 (w.heap.size + 1 + 1) (.int .i64 0) (.int .i64 0) 28 by rw [hW3]; exact (Two.newAt _ _ _ _ _ (by simp)))
  clear hB
  go_enter Tryz.func32, Tryz.ntmps32
  go_upto_region 1 with fail
  rw [← hW3]
  clear hW3
  have k0_0 := HF.out.cell0
  have k0_1 := HF.out.cell1
  have k1_0 := HG.out.cell0
  have k1_1 := HG.out.cell1
  have hb0 := Below.refl W3.heap.size W3
  have hw0 := HBW.out
  have cc := cg W3 hw0
  go_wp2_with fail
  refine cc.mono ?_
  rintro e V1 ⟨v1, rfl, hm1, hn1⟩
  have hb1 := hb0.trans (hn1.mono hb0.size)
  have hw1 := hw0.trans (hn1.mono hw0.size)
  subst hm1
  clear cc hb0 hw0 hn1
  clear k0_0 k0_1 k1_0 k1_1
  have k0_0 := (HF.out.below hb1 HF.out.lt).cell0
  have k0_1 := (HF.out.below hb1 HF.out.lt).cell1
  have k1_0 := (HG.out.below hb1 HG.out.lt).cell0
  have k1_1 := (HG.out.below hb1 HG.out.lt).cell1
  obtain ⟨NB, hNB⟩ : ∃ NB, NB = V1.heap.size := ⟨_, rfl⟩
  obtain ⟨U, hU⟩ : ∃ U, U = V1.alloc (.cells #[.int .i64 n, .int .i64 d] 28) := ⟨_, rfl⟩
  have HU := Lib.hid (show U = _ ∧ NB = _ from ⟨hU, hNB⟩)
  clear hU hNB k0_0 k0_1 k1_0 k1_1
  go_upto_region 2 with fail
  rw [← HU.out.2, ← HU.out.1]
  have hbU := hb1.alloc hb1.size (.cells #[.int .i64 n, .int .i64 d] 28)
  have hwU := hw1.alloc hw1.size (.cells #[.int .i64 n, .int .i64 d] 28)
  rw [← HU.out.1] at hbU hwU
  have TN := Lib.hid (show Two U NB (.int .i64 n) (.int .i64 d) 28 by rw [HU.out.1, HU.out.2]; exact Two.newAt _ _ _ _ _ rfl)
  have R := HR.out.below hbU HR.out.lt
  have r0 := R.cell0
  have r1 := R.cell1
  have g0 := R.free 0
  have g1 := R.free 1
  have k0 := TN.out.cell0
  have k1 := TN.out.cell1
  have HE := Lib.hid hwU
  clear HU hbU hwU hb1 hw1 R
  go_wp2
  refine bodyPost_ret (v := .agg #[.int .i64 n, .int .i64 d]) (by simp [results, Tryz.results32, go_sem, r0, r1]) rfl ⟨rfl, ?_⟩
  exact (HE.out.setCell (by dsimp only; omega) _).setCell (by dsimp only; omega) _

set_option maxRecDepth 100000 in
set_option maxHeartbeats 1600000 in
theorem lmul_ok {p q r s n d : Int} (w : World) (h1 : FOk (p, q)) (h2 : FOk (r, s)) (hv : lowV (p * r) (q * s) = .tuple #[.agg #[.int .i64 n, .int .i64 d], .int .i64 0]) :
    Calls Tryz.prog 33 #[.agg #[.int .i64 p, .int .i64 q], .agg #[.int .i64 r, .int .i64 s]] w (RetV (.agg #[.int .i64 n, .int .i64 d]) w) := by
  have cg : ∀ W (_ : Below w.heap.size w W), Calls Tryz.prog 37 #[.agg #[.int .i64 p, .int .i64 q], .agg #[.int .i64 r, .int .i64 s]] W (RetW (.tuple #[.agg #[.int .i64 n, .int .i64 d], .int .i64 0]) W) := fun W _ => by
    rw [← hv]
    exact (gmul_ok p q r s W (i64_lowf h1).1 (i64_lowf h1).2 (i64_lowf h2).1 (i64_lowf h2).2 h1 h2).mono fun e w' h => RetW.of h
  clear h1 h2 hv
  obtain ⟨W3, hW3⟩ : ∃ W3, W3 = (((w.alloc (.cells #[.int .i64 p, .int .i64 q] 28)).alloc (.cells #[.int .i64 r, .int .i64 s] 28)).alloc (.cells #[.int .i64 0, .int .i64 0] 28)) := ⟨_, rfl⟩
  have hB : Below w.heap.size w W3 := by rw [hW3]; exact ((((Below.refl _ _).alloc (Nat.le_refl _) _).alloc (by simp; try omega) _).alloc (by simp; try omega) _)
  have HBW := Lib.hid hB
  have HF := Lib.hid (show Two W3 (w.heap.size) (.int .i64 p) (.int .i64 q) 28 by rw [hW3]; exact (((((Two.newAt _ _ _ _ _ (by simp))).alloc _)).alloc _))
  have HG := Lib.hid (show Two W3 (w.heap.size + 1) (.int .i64 r) (.int .i64 s) 28 by rw [hW3]; exact (((Two.newAt _ _ _ _ _ (by simp))).alloc _))
  have HR := Lib.hid (show Two W3 (w.heap.size + 1 + 1) (.int .i64 0) (.int .i64 0) 28 by rw [hW3]; exact (Two.newAt _ _ _ _ _ (by simp)))
  clear hB
  go_enter Tryz.func33, Tryz.ntmps33
  go_upto_region 1 with fail
  rw [← hW3]
  clear hW3
  have k0_0 := HF.out.cell0
  have k0_1 := HF.out.cell1
  have k1_0 := HG.out.cell0
  have k1_1 := HG.out.cell1
  have hb0 := Below.refl W3.heap.size W3
  have hw0 := HBW.out
  have cc := cg W3 hw0
  go_wp2_with fail
  refine cc.mono ?_
  rintro e V1 ⟨v1, rfl, hm1, hn1⟩
  have hb1 := hb0.trans (hn1.mono hb0.size)
  have hw1 := hw0.trans (hn1.mono hw0.size)
  subst hm1
  clear cc hb0 hw0 hn1
  clear k0_0 k0_1 k1_0 k1_1
  have k0_0 := (HF.out.below hb1 HF.out.lt).cell0
  have k0_1 := (HF.out.below hb1 HF.out.lt).cell1
  have k1_0 := (HG.out.below hb1 HG.out.lt).cell0
  have k1_1 := (HG.out.below hb1 HG.out.lt).cell1
  obtain ⟨NB, hNB⟩ : ∃ NB, NB = V1.heap.size := ⟨_, rfl⟩
  obtain ⟨U, hU⟩ : ∃ U, U = V1.alloc (.cells #[.int .i64 n, .int .i64 d] 28) := ⟨_, rfl⟩
  have HU := Lib.hid (show U = _ ∧ NB = _ from ⟨hU, hNB⟩)
  clear hU hNB k0_0 k0_1 k1_0 k1_1
  go_upto_region 2 with fail
  rw [← HU.out.2, ← HU.out.1]
  have hbU := hb1.alloc hb1.size (.cells #[.int .i64 n, .int .i64 d] 28)
  have hwU := hw1.alloc hw1.size (.cells #[.int .i64 n, .int .i64 d] 28)
  rw [← HU.out.1] at hbU hwU
  have TN := Lib.hid (show Two U NB (.int .i64 n) (.int .i64 d) 28 by rw [HU.out.1, HU.out.2]; exact Two.newAt _ _ _ _ _ rfl)
  have R := HR.out.below hbU HR.out.lt
  have r0 := R.cell0
  have r1 := R.cell1
  have g0 := R.free 0
  have g1 := R.free 1
  have k0 := TN.out.cell0
  have k1 := TN.out.cell1
  have HE := Lib.hid hwU
  clear HU hbU hwU hb1 hw1 R
  go_wp2
  refine bodyPost_ret (v := .agg #[.int .i64 n, .int .i64 d]) (by simp [results, Tryz.results33, go_sem, r0, r1]) rfl ⟨rfl, ?_⟩
  exact (HE.out.setCell (by dsimp only; omega) _).setCell (by dsimp only; omega) _

theorem lowV_form (p q : Int) : ∃ n d e : Int, lowV p q = .tuple #[.agg #[.int .i64 n, .int .i64 d], .int .i64 e] := fracV_form _ _

end Go.Proofs.YtklngjjokbhfpaaGreat
