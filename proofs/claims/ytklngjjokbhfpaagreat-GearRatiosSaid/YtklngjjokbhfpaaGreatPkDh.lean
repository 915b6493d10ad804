/- Texts Dh Di in one. -/
import Derived.Test.YtklngjjokbhfpaaGreatPkDe
import Derived.Test.YtklngjjokbhfpaaGreatPkP
namespace Go.Proofs.YtklngjjokbhfpaaGreat
open Go.RowKit

theorem IsQ.open2 {w : World} {v : Value} {p q : Int} {N : Nat} (h : IsQ w v p q N) : ∃ (pa : Bool × Unit) (A : Option Addr) (n c : Nat) (pb : Bool × Unit) (B : Option Addr) (m d : Nat), v = .agg #[.bool pa.1, .slice A n c, .bool pb.1, .slice B m d] ∧ IsZ w (.agg #[.bool pa.1, .slice A n c]) p N ∧ IsZ w (.agg #[.bool pb.1, .slice B m d]) q N := by
  obtain ⟨na, A, n, c, nb, B, m, d, e, h1, h2⟩ := h.open'
  exact ⟨(na, ()), A, n, c, (nb, ()), B, m, d, e, h1, h2⟩
theorem IsZ.agg' {w : World} {v : Value} {z : Int} {N : Nat} (h : IsZ w v z N) : ∃ (p : Bool × Unit) (A : Option Addr) (n c : Nat), v = .agg #[.bool p.1, .slice A n c] := by
  obtain ⟨neg, A, n, c, m, rfl, -⟩ := h.open'
  exact ⟨(neg, ()), A, n, c, rfl⟩
theorem IsZ.storedF {w : World} {v : Value} {z : Int} {N R : Nat} {u0 u1 u2 u3 : Value} {t : TypeId} (h : IsZ w v z N) (hR : Four w R (.bool false) (.slice none 0 0) (.bool false) (.slice none 0 0) t) : IsZ ((((w.setCell ⟨R, 0, none⟩ u0).setCell ⟨R, 1, none⟩ u1).setCell ⟨R, 2, none⟩ u2).setCell ⟨R, 3, none⟩ u3) v z N :=
  h.put hR qcell_no (by simp [World.setCell]) fun k hk => by rw [Below.heap_setCell _ _ _ _ (by simpa using hk), Below.heap_setCell _ _ _ _ (by simpa using hk), Below.heap_setCell _ _ _ _ (by simpa using hk), Below.heap_setCell _ _ _ _ (by simpa using hk)]
theorem IsQ.more {w : World} {v : Value} {p q : Int} {N M : Nat} (h : IsQ w v p q N) (hm : N ≤ M) : IsQ w v p q M := by
  obtain ⟨na, a, nb, b, rfl, h1, h2⟩ := h
  exact ⟨na, a, nb, b, rfl, h1.more hm, h2.more hm⟩

set_option maxRecDepth 100000 in
set_option maxHeartbeats 1600000 in
theorem qmul_any {w : World} {u v : Value} {p q p1 q1 : Int} {N M : Nat} (hu : IsQ w u p q N) (hv : IsQ w v p1 q1 M) (hN : N ≤ 200) (hM : M ≤ 200) :
    Calls Tryz.prog 81 #[u, v] w (RetQ (p * p1) (q * q1) (N + M) w) := by
  obtain ⟨pa0, A0, n0, c0, pb0, B0, m0, d0, rfl, hp, hq⟩ := hu.open2
  obtain ⟨pa1, A1, n1, c1, pb1, B1, m1, d1, rfl, hp1, hq1⟩ := hv.open2
  have ca : ∀ W, Below w.heap.size w W → Calls Tryz.prog 121 #[.agg #[.bool pa0.1, .slice A0 n0 c0], .agg #[.bool pa1.1, .slice A1 n1 c1]] W (RetZ (p * p1) (N + M) W) := fun W hb => mul_any (hp.below hb) (hp1.below hb) (by omega) (by omega)
  have cb : ∀ W, Below w.heap.size w W → Calls Tryz.prog 121 #[.agg #[.bool pb0.1, .slice B0 m0 d0], .agg #[.bool pb1.1, .slice B1 m1 d1]] W (RetZ (q * q1) (N + M) W) := fun W hb => mul_any (hq.below hb) (hq1.below hb) (by omega) (by omega)
  clear hu hv hp hq hp1 hq1
  obtain ⟨W3, hW3⟩ : ∃ W3, W3 = (((w.alloc (.cells #[.bool pa0.1, .slice A0 n0 c0, .bool pb0.1, .slice B0 m0 d0] 98)).alloc (.cells #[.bool pa1.1, .slice A1 n1 c1, .bool pb1.1, .slice B1 m1 d1] 98)).alloc (.cells #[.bool false, .slice none 0 0, .bool false, .slice none 0 0] 98)) := ⟨_, rfl⟩
  have hB : Below w.heap.size w W3 := by rw [hW3]; exact ((((Below.refl _ _).alloc (Nat.le_refl _) _).alloc (by simp; try omega) _).alloc (by simp; try omega) _)
  have HBW := Lib.hid hB
  have HF := Lib.hid (show Four W3 (w.heap.size) (.bool pa0.1) (.slice A0 n0 c0) (.bool pb0.1) (.slice B0 m0 d0) 98 by rw [hW3]; exact (((((Four.newAt _ _ _ _ _ _ _ (by simp))).alloc _)).alloc _))
  have HG := Lib.hid (show Four W3 (w.heap.size + 1) (.bool pa1.1) (.slice A1 n1 c1) (.bool pb1.1) (.slice B1 m1 d1) 98 by rw [hW3]; exact (((Four.newAt _ _ _ _ _ _ _ (by simp))).alloc _))
  have HR := Lib.hid (show Four W3 (w.heap.size + 1 + 1) (.bool false) (.slice none 0 0) (.bool false) (.slice none 0 0) 98 by rw [hW3]; exact (Four.newAt _ _ _ _ _ _ _ (by simp)))
  clear hB
  go_enter Tryz.func81, Tryz.ntmps81
  go_wp2_with fail
  rw [← hW3]
  clear hW3
  refine Lex.wp_region_lex (fun w' => Four w' w.heap.size (.bool pa0.1) (.slice A0 n0 c0) (.bool pb0.1) (.slice B0 m0 d0) 98 ∧ Four w' (w.heap.size + 1) (.bool pa1.1) (.slice A1 n1 c1) (.bool pb1.1) (.slice B1 m1 d1) 98) (fun j => j != 11)
    [(0, true), (1, true), (2, true), (3, true), (5, true), (6, true), (7, true), (8, true), (4, false), (9, false), (10, false), (11, false)]
    (by kernel_rfl) (by kernel_rfl) (by kernel_rfl) (by kernel_rfl) ⟨HF.out, HG.out⟩ ?_
  iterate 8 (refine Lex.lex_take (v := ?_) rfl rfl (by rfl) (fun _ hS => ?_) ?_; rotate_left 1; (focus (have g0_0 := hS.1.cell0; have g0_1 := hS.1.cell1; have g0_2 := hS.1.cell2; have g0_3 := hS.1.cell3; have g1_0 := hS.2.cell0; have g1_1 := hS.2.cell1; have g1_2 := hS.2.cell2; have g1_3 := hS.2.cell3; clear hS; go_simp; with_reducible rfl)); simp only [List.setIfInBounds_toArray, List.set_cons_zero, List.set_cons_succ])
  refine Lex.lex_do rfl ?_
  have hb0 : Below W3.heap.size W3 W3.drew := ⟨rfl, rfl, rfl, Nat.le_refl _, fun _ _ => rfl⟩
  have hw0 : Below w.heap.size w W3.drew := ⟨HBW.out.os, HBW.out.tape, HBW.out.output, HBW.out.size, HBW.out.block⟩
  generalize hV0 : W3.drew = V0 at *
  clear hV0
  have cc := ca V0 hw0
  go_wp2_with fail
  refine cc.mono ?_
  rintro e V1 ⟨v1, rfl, hm1, hn1⟩
  have hb1 := hb0.trans (hn1.mono hb0.size)
  have hw1 := hw0.trans (hn1.mono hw0.size)
  clear cc hb0 hw0 hn1
  go_wp2_with fail
  have E0 := HF.out.below hb1 HF.out.lt
  have E1 := HG.out.below hb1 HG.out.lt
  refine Lex.lexQ_normal (fun _ => ⟨E0, E1⟩) ?_
  refine Lex.lex_do rfl ?_
  clear E0 E1
  have cc := cb V1 hw1
  go_wp2_with fail
  refine cc.mono ?_
  rintro e V2 ⟨v2, rfl, hm2, hn2⟩
  have hb2 := hb1.trans (hn2.mono hb1.size)
  have hw2 := hw1.trans (hn2.mono hw1.size)
  have hm1 := hm1.below hn2
  clear cc hb1 hw1 hn2
  go_wp2_with fail
  have E0 := HF.out.below hb2 HF.out.lt
  have E1 := HG.out.below hb2 HG.out.lt
  refine Lex.lexQ_normal (fun _ => ⟨E0, E1⟩) ?_
  refine Lex.lex_do rfl ?_
  clear E0 E1
  obtain ⟨p5, A5, n5, c5, rfl⟩ := hm1.agg'
  obtain ⟨p6, A6, n6, c6, rfl⟩ := hm2.agg'
  go_wp2_with fail
  have E0 := HF.out.below hb2 HF.out.lt
  have E1 := HG.out.below hb2 HG.out.lt
  refine Lex.lexQ_normal (fun _ => ⟨E0, E1⟩) ?_
  refine Lex.lex_do rfl ?_
  clear E0 E1
  have HR4 := HR.out.below hb2 HR.out.lt
  have r0 := HR4.cell0
  have r1 := HR4.cell1
  have r2 := HR4.cell2
  have r3 := HR4.cell3
  have g0 := HR4.free 0
  have g1 := HR4.free 1
  have g2 := HR4.free 2
  have g3 := HR4.free 3
  have HP := Lib.hid (hm1.storedF (u0 := .bool p5.1) (u1 := .slice A5 n5 c5) (u2 := .bool p6.1) (u3 := .slice A6 n6 c6) HR4)
  have HQ := Lib.hid (hm2.storedF (u0 := .bool p5.1) (u1 := .slice A5 n5 c5) (u2 := .bool p6.1) (u3 := .slice A6 n6 c6) HR4)
  have HBE := Lib.hid hw2
  clear HR4 hm1 hm2 hw2 hb2
  go_wp2_with fail
  refine Lex.lexQ_normal (fun h => absurd h (by decide)) ?_
  refine Lex.lex_nil ?_
  go_wp2
  refine bodyPost_ret (v := .agg #[.bool p5.1, .slice A5 n5 c5, .bool p6.1, .slice A6 n6 c6]) (by simp [results, Tryz.results81, go_sem, r0, r1, r2, r3]) rfl ⟨_, rfl, ⟨p5.1, _, p6.1, _, rfl, HP.out, HQ.out⟩, ?_⟩
  exact (((HBE.out.setCell (by simp; try omega) _).setCell (by simp; try omega) _).setCell (by simp; try omega) _).setCell (by simp; try omega) _

set_option maxRecDepth 100000 in
set_option maxHeartbeats 1600000 in
theorem qadd_any {w : World} {u v : Value} {p q p1 q1 : Int} {N M : Nat} (hu : IsQ w u p q N) (hv : IsQ w v p1 q1 M) (hN : N ≤ 200) (hM : M ≤ 200) :
    Calls Tryz.prog 80 #[u, v] w (RetQ (p * q1 + p1 * q) (q * q1) (N + M + 1) w) := by
  obtain ⟨pa0, A0, n0, c0, pb0, B0, m0, d0, rfl, hp, hq⟩ := hu.open2
  obtain ⟨pa1, A1, n1, c1, pb1, B1, m1, d1, rfl, hp1, hq1⟩ := hv.open2
  have ca : ∀ W, Below w.heap.size w W → Calls Tryz.prog 121 #[.agg #[.bool pa0.1, .slice A0 n0 c0], .agg #[.bool pb1.1, .slice B1 m1 d1]] W (RetZ (p * q1) (N + M) W) := fun W hb => mul_any (hp.below hb) (hq1.below hb) (by omega) (by omega)
  have cb : ∀ W, Below w.heap.size w W → Calls Tryz.prog 121 #[.agg #[.bool pa1.1, .slice A1 n1 c1], .agg #[.bool pb0.1, .slice B0 m0 d0]] W (RetZ (p1 * q) (M + N) W) := fun W hb => mul_any (hp1.below hb) (hq.below hb) (by omega) (by omega)
  have cs : ∀ W (_ : Below w.heap.size w W) u v, IsZ W u (p * q1) (N + M) → IsZ W v (p1 * q) (M + N) → Calls Tryz.prog 122 #[u, v] W (RetZ (p * q1 + p1 * q) (N + M + 1) W) := fun W _ u v h1 h2 => (add_any h1 h2 (by omega) (by omega)).mono fun e w' ⟨v, g1, g2, g3⟩ => ⟨v, g1, g2.more (by omega), g3⟩
  have cc : ∀ W, Below w.heap.size w W → Calls Tryz.prog 121 #[.agg #[.bool pb0.1, .slice B0 m0 d0], .agg #[.bool pb1.1, .slice B1 m1 d1]] W (RetZ (q * q1) (N + M + 1) W) := fun W hb => (mul_any (hq.below hb) (hq1.below hb) (by omega) (by omega)).mono fun e w' ⟨v, g1, g2, g3⟩ => ⟨v, g1, g2.more (by omega), g3⟩
  clear hu hv hp hq hp1 hq1
  obtain ⟨W3, hW3⟩ : ∃ W3, W3 = (((w.alloc (.cells #[.bool pa0.1, .slice A0 n0 c0, .bool pb0.1, .slice B0 m0 d0] 98)).alloc (.cells #[.bool pa1.1, .slice A1 n1 c1, .bool pb1.1, .slice B1 m1 d1] 98)).alloc (.cells #[.bool false, .slice none 0 0, .bool false, .slice none 0 0] 98)) := ⟨_, rfl⟩
  have hB : Below w.heap.size w W3 := by rw [hW3]; exact ((((Below.refl _ _).alloc (Nat.le_refl _) _).alloc (by simp; try omega) _).alloc (by simp; try omega) _)
  have HBW := Lib.hid hB
  have HF := Lib.hid (show Four W3 (w.heap.size) (.bool pa0.1) (.slice A0 n0 c0) (.bool pb0.1) (.slice B0 m0 d0) 98 by rw [hW3]; exact (((((Four.newAt _ _ _ _ _ _ _ (by simp))).alloc _)).alloc _))
  have HG := Lib.hid (show Four W3 (w.heap.size + 1) (.bool pa1.1) (.slice A1 n1 c1) (.bool pb1.1) (.slice B1 m1 d1) 98 by rw [hW3]; exact (((Four.newAt _ _ _ _ _ _ _ (by simp))).alloc _))
  have HR := Lib.hid (show Four W3 (w.heap.size + 1 + 1) (.bool false) (.slice none 0 0) (.bool false) (.slice none 0 0) 98 by rw [hW3]; exact (Four.newAt _ _ _ _ _ _ _ (by simp)))
  clear hB
  go_enter Tryz.func80, Tryz.ntmps80
  go_wp2_with fail
  rw [← hW3]
  clear hW3
  refine Lex.wp_region_lex (fun w' => Four w' w.heap.size (.bool pa0.1) (.slice A0 n0 c0) (.bool pb0.1) (.slice B0 m0 d0) 98 ∧ Four w' (w.heap.size + 1) (.bool pa1.1) (.slice A1 n1 c1) (.bool pb1.1) (.slice B1 m1 d1) 98) (fun j => j != 17)
    [(0, true), (1, true), (2, true), (3, true), (5, true), (6, true), (7, true), (8, true), (11, true), (12, true), (13, true), (14, true), (4, false), (9, false), (10, false), (15, false), (16, false), (17, false)]
    (by kernel_rfl) (by kernel_rfl) (by kernel_rfl) (by kernel_rfl) ⟨HF.out, HG.out⟩ ?_
  iterate 12 (refine Lex.lex_take (v := ?_) rfl rfl (by rfl) (fun _ hS => ?_) ?_; rotate_left 1; (focus (have g0_0 := hS.1.cell0; have g0_1 := hS.1.cell1; have g0_2 := hS.1.cell2; have g0_3 := hS.1.cell3; have g1_0 := hS.2.cell0; have g1_1 := hS.2.cell1; have g1_2 := hS.2.cell2; have g1_3 := hS.2.cell3; clear hS; go_simp; with_reducible rfl)); simp only [List.setIfInBounds_toArray, List.set_cons_zero, List.set_cons_succ])
  refine Lex.lex_do rfl ?_
  have hb0 : Below W3.heap.size W3 W3.drew := ⟨rfl, rfl, rfl, Nat.le_refl _, fun _ _ => rfl⟩
  have hw0 : Below w.heap.size w W3.drew := ⟨HBW.out.os, HBW.out.tape, HBW.out.output, HBW.out.size, HBW.out.block⟩
  generalize hV0 : W3.drew = V0 at *
  clear hV0
  have cc := ca V0 hw0
  go_wp2_with fail
  refine cc.mono ?_
  rintro e V1 ⟨v1, rfl, hm1, hn1⟩
  have hb1 := hb0.trans (hn1.mono hb0.size)
  have hw1 := hw0.trans (hn1.mono hw0.size)
  clear cc hb0 hw0 hn1
  go_wp2_with fail
  have E0 := HF.out.below hb1 HF.out.lt
  have E1 := HG.out.below hb1 HG.out.lt
  refine Lex.lexQ_normal (fun _ => ⟨E0, E1⟩) ?_
  refine Lex.lex_do rfl ?_
  clear E0 E1
  have cc := cb V1 hw1
  go_wp2_with fail
  refine cc.mono ?_
  rintro e V2 ⟨v2, rfl, hm2, hn2⟩
  have hb2 := hb1.trans (hn2.mono hb1.size)
  have hw2 := hw1.trans (hn2.mono hw1.size)
  have hm1 := hm1.below hn2
  clear cc hb1 hw1 hn2
  go_wp2_with fail
  have E0 := HF.out.below hb2 HF.out.lt
  have E1 := HG.out.below hb2 HG.out.lt
  refine Lex.lexQ_normal (fun _ => ⟨E0, E1⟩) ?_
  refine Lex.lex_do rfl ?_
  clear E0 E1
  have cc := cs V2 hw2 _ _ hm1 hm2
  go_wp2_with fail
  refine cc.mono ?_
  rintro e V3 ⟨v3, rfl, hm3, hn3⟩
  have hb3 := hb2.trans (hn3.mono hb2.size)
  have hw3 := hw2.trans (hn3.mono hw2.size)
  clear hm1 hm2
  clear cc hb2 hw2 hn3
  go_wp2_with fail
  have E0 := HF.out.below hb3 HF.out.lt
  have E1 := HG.out.below hb3 HG.out.lt
  refine Lex.lexQ_normal (fun _ => ⟨E0, E1⟩) ?_
  refine Lex.lex_do rfl ?_
  clear E0 E1
  have cc := cc V3 hw3
  go_wp2_with fail
  refine cc.mono ?_
  rintro e V4 ⟨v4, rfl, hm4, hn4⟩
  have hb4 := hb3.trans (hn4.mono hb3.size)
  have hw4 := hw3.trans (hn4.mono hw3.size)
  have hm3 := hm3.below hn4
  clear cc hb3 hw3 hn4
  go_wp2_with fail
  have E0 := HF.out.below hb4 HF.out.lt
  have E1 := HG.out.below hb4 HG.out.lt
  refine Lex.lexQ_normal (fun _ => ⟨E0, E1⟩) ?_
  refine Lex.lex_do rfl ?_
  clear E0 E1
  obtain ⟨p5, A5, n5, c5, rfl⟩ := hm3.agg'
  obtain ⟨p6, A6, n6, c6, rfl⟩ := hm4.agg'
  go_wp2_with fail
  have E0 := HF.out.below hb4 HF.out.lt
  have E1 := HG.out.below hb4 HG.out.lt
  refine Lex.lexQ_normal (fun _ => ⟨E0, E1⟩) ?_
  refine Lex.lex_do rfl ?_
  clear E0 E1
  have HR4 := HR.out.below hb4 HR.out.lt
  have r0 := HR4.cell0
  have r1 := HR4.cell1
  have r2 := HR4.cell2
  have r3 := HR4.cell3
  have g0 := HR4.free 0
  have g1 := HR4.free 1
  have g2 := HR4.free 2
  have g3 := HR4.free 3
  have HP := Lib.hid (hm3.storedF (u0 := .bool p5.1) (u1 := .slice A5 n5 c5) (u2 := .bool p6.1) (u3 := .slice A6 n6 c6) HR4)
  have HQ := Lib.hid (hm4.storedF (u0 := .bool p5.1) (u1 := .slice A5 n5 c5) (u2 := .bool p6.1) (u3 := .slice A6 n6 c6) HR4)
  have HBE := Lib.hid hw4
  clear HR4 hm3 hm4 hw4 hb4
  go_wp2_with fail
  refine Lex.lexQ_normal (fun h => absurd h (by decide)) ?_
  refine Lex.lex_nil ?_
  go_wp2
  refine bodyPost_ret (v := .agg #[.bool p5.1, .slice A5 n5 c5, .bool p6.1, .slice A6 n6 c6]) (by simp [results, Tryz.results80, go_sem, r0, r1, r2, r3]) rfl ⟨_, rfl, ⟨p5.1, _, p6.1, _, rfl, HP.out, HQ.out⟩, ?_⟩
  exact (((HBE.out.setCell (by simp; try omega) _).setCell (by simp; try omega) _).setCell (by simp; try omega) _).setCell (by simp; try omega) _

end Go.Proofs.YtklngjjokbhfpaaGreat

namespace Go.Proofs.YtklngjjokbhfpaaGreat
open Go.RowKit

/-- valid of two fractions in a new row. -/
theorem valid_two {p q r s : Int} (hp : I64 p) (hq : I64 q) (hr : I64 r) (hs : I64 s) (b : Bool) (hb : decide (FOk (p, q) ∧ FOk (r, s)) = b) (W : World) :
    Calls Tryz.prog 58 #[.slice (some ⟨W.heap.size, 0, none⟩) 2 2] (W.alloc (.cells #[.int .i64 p, .int .i64 q, .int .i64 r, .int .i64 s] 28)) (RetW (.bool b) W) := by
  have hI : I64s [(p, q), (r, s)] := fun x hx => by simp at hx; rcases hx with rfl | rfl; exact ⟨hp, hq⟩; exact ⟨hr, hs⟩
  have ev : decide (∀ x ∈ [(p, q), (r, s)], FOk x) = decide (FOk (p, q) ∧ FOk (r, s)) := by simp
  subst hb
  rw [← ev]
  have hba : Below W.heap.size W (W.alloc (.cells #[.int .i64 p, .int .i64 q, .int .i64 r, .int .i64 s] 28)) := (Below.refl _ _).alloc (Nat.le_refl _) _
  refine (valid_any _ 2 2 [(p, q), (r, s)] _ (.inr ⟨_, 0, rfl, by simp, fun k hk => ?_⟩) rfl (by omega) hI).mono fun e w' h => ⟨_, h.1, rfl, hba.trans (h.2.mono hba.size)⟩
  match k, hk with
  | 0, _ => exact ⟨by simp [go_sem], by simp [go_sem]⟩
  | 1, _ => exact ⟨by simp [go_sem], by simp [go_sem]⟩
theorem fracV_form (a b : Int) : ∃ n d e : Int, fracV a b = .tuple #[.agg #[.int .i64 n, .int .i64 d], .int .i64 e] := by
  unfold fracV
  split
  · exact ⟨_, _, _, rfl⟩
  · exact ⟨_, _, _, rfl⟩
/-- A fraction of two integers, in lowest terms. -/
def lowV (p q : Int) : Value := fracV (p / (Int.gcd p q : Nat)) (q / (Int.gcd p q : Nat))
theorem from_w {p q : Int} (hp : I64 p) (hq : I64 q) {w : World} : ∀ W (_ : Below w.heap.size w W), Calls Tryz.prog 77 #[.agg #[.int .i64 p, .int .i64 q]] W (RetQ p q 2 W) := fun W _ => from_any p q W hp hq

set_option maxRecDepth 100000 in
set_option maxHeartbeats 1600000 in
theorem gcmp_ok (p q r s : Int) (w : World) (hp : I64 p) (hq : I64 q) (hr : I64 r) (hs : I64 s) (h1 : FOk (p, q)) (h2 : FOk (r, s)) :
    Calls Tryz.prog 38 #[.agg #[.int .i64 p, .int .i64 q], .agg #[.int .i64 r, .int .i64 s]] w (RetV (.tuple #[.int .i64 (sgn (p * s - r * q)), .int .i64 0]) w) := by
  have cv := fun W => valid_two hp hq hr hs true (decide_eq_true ⟨h1, h2⟩) W
  have co := fun W => (order_any p q r s W hp hq hr hs).mono fun e w' h => RetW.of h
  generalize sgn (p * s - r * q) = sg at *
  clear h1 h2 hp hq hr hs
  obtain ⟨W3, hW3⟩ : ∃ W3, W3 = ((w.alloc (.cells #[.int .i64 p, .int .i64 q] 28)).alloc (.cells #[.int .i64 r, .int .i64 s] 28)) := ⟨_, rfl⟩
  have hB : Below w.heap.size w W3 := by rw [hW3]; exact (((Below.refl _ _).alloc (Nat.le_refl _) _).alloc (by simp; try omega) _)
  have HBW := Lib.hid hB
  have HF := Lib.hid (show Two W3 (w.heap.size) (.int .i64 p) (.int .i64 q) 28 by rw [hW3]; exact (((Two.newAt _ _ _ _ _ (by simp))).alloc _))
  have HG := Lib.hid (show Two W3 (w.heap.size + 1) (.int .i64 r) (.int .i64 s) 28 by rw [hW3]; exact (Two.newAt _ _ _ _ _ (by simp)))
  clear hB
  go_enter Tryz.func38, Tryz.ntmps38
  go_upto_region 1 with fail
  rw [← hW3]
  clear hW3
  have k0 := HF.out.cell0
  have k1 := HF.out.cell1
  have k2 := HG.out.cell0
  have k3 := HG.out.cell1
  have cc := cv W3
  go_wp2_with fail
  refine cc.mono ?_
  rintro e V1 ⟨v1, rfl, hm1, hb1⟩
  subst hm1
  have hw1 := HBW.out.trans (hb1.mono HBW.out.size)
  clear cc cv k0 k1 k2 k3
  have k0 := (HF.out.below hb1 HF.out.lt).cell0
  have k1 := (HF.out.below hb1 HF.out.lt).cell1
  have k2 := (HG.out.below hb1 HG.out.lt).cell0
  have k3 := (HG.out.below hb1 HG.out.lt).cell1
  have cc := co V1
  have HW := Lib.hid hw1
  clear hb1 hw1
  go_wp2_with fail
  refine cc.mono ?_
  rintro e V2 ⟨v2, rfl, hm2, hn2⟩
  subst hm2
  have HE := Lib.hid (HW.out.trans (hn2.mono HW.out.size))
  clear cc co hn2
  go_wp2
  refine bodyPost_ret (v := .tuple #[.int .i64 sg, .int .i64 0]) (by simp [results, Tryz.results38, go_sem]) rfl ⟨rfl, HE.out⟩

set_option maxRecDepth 100000 in
set_option maxHeartbeats 1600000 in
theorem gcmp_bad (p q r s : Int) (w : World) (hp : I64 p) (hq : I64 q) (hr : I64 r) (hs : I64 s) (h : ¬ (FOk (p, q) ∧ FOk (r, s))) :
    Calls Tryz.prog 38 #[.agg #[.int .i64 p, .int .i64 q], .agg #[.int .i64 r, .int .i64 s]] w (RetV (.tuple #[.int .i64 0, .int .i64 2]) w) := by
  have cv := fun W => valid_two hp hq hr hs false (decide_eq_false h) W
  clear h hp hq hr hs
  obtain ⟨W3, hW3⟩ : ∃ W3, W3 = ((w.alloc (.cells #[.int .i64 p, .int .i64 q] 28)).alloc (.cells #[.int .i64 r, .int .i64 s] 28)) := ⟨_, rfl⟩
  have hB : Below w.heap.size w W3 := by rw [hW3]; exact (((Below.refl _ _).alloc (Nat.le_refl _) _).alloc (by simp; try omega) _)
  have HBW := Lib.hid hB
  have HF := Lib.hid (show Two W3 (w.heap.size) (.int .i64 p) (.int .i64 q) 28 by rw [hW3]; exact (((Two.newAt _ _ _ _ _ (by simp))).alloc _))
  have HG := Lib.hid (show Two W3 (w.heap.size + 1) (.int .i64 r) (.int .i64 s) 28 by rw [hW3]; exact (Two.newAt _ _ _ _ _ (by simp)))
  clear hB
  go_enter Tryz.func38, Tryz.ntmps38
  go_upto_region 1 with fail
  rw [← hW3]
  clear hW3
  have k0 := HF.out.cell0
  have k1 := HF.out.cell1
  have k2 := HG.out.cell0
  have k3 := HG.out.cell1
  have cc := cv W3
  go_wp2_with fail
  refine cc.mono ?_
  rintro e V1 ⟨v1, rfl, hm1, hb1⟩
  subst hm1
  have hw1 := HBW.out.trans (hb1.mono HBW.out.size)
  clear cc cv k0 k1 k2 k3
  have HW := Lib.hid hw1
  clear hb1 hw1
  go_wp2
  refine bodyPost_ret (v := .tuple #[.int .i64 0, .int .i64 2]) (by simp [results, Tryz.results38, go_sem]) rfl ⟨rfl, HW.out⟩

set_option maxRecDepth 100000 in
set_option maxHeartbeats 1600000 in
theorem gmul_ok (p q r s : Int) (w : World) (hp : I64 p) (hq : I64 q) (hr : I64 r) (hs : I64 s) (h1 : FOk (p, q)) (h2 : FOk (r, s)) :
    Calls Tryz.prog 37 #[.agg #[.int .i64 p, .int .i64 q], .agg #[.int .i64 r, .int .i64 s]] w (RetV (lowV (p * r) (q * s)) w) := by
  have cv := fun W => valid_two hp hq hr hs true (decide_eq_true ⟨h1, h2⟩) W
  have hden : 0 < q * s := Int.mul_pos (by have := h1.1; simp at this; omega) (by have := h2.1; simp at this; omega)
  have ca := from_w hp hq (w := w)
  have cb := from_w hr hs (w := w)
  have cm : ∀ W (_ : Below w.heap.size w W) u v, IsQ W u p q 2 → IsQ W v r s 2 → Calls Tryz.prog 81 #[u, v] W (RetQ (p * r) (q * s) 4 W) := fun W _ u v g1 g2 => qmul_any g1 g2 (by omega) (by omega)
  obtain ⟨fn, fd, fe, hf⟩ := fracV_form ((p * r) / (Int.gcd (p * r) (q * s) : Nat)) ((q * s) / (Int.gcd (p * r) (q * s) : Nat))
  have cf : ∀ W (_ : Below w.heap.size w W) u, IsQ W u (p * r) (q * s) 4 → Calls Tryz.prog 75 #[u] W (RetW (.tuple #[.agg #[.int .i64 fn, .int .i64 fd], .int .i64 fe]) W) := fun W _ u g => by
    have := frac_any g (by omega) hden
    rw [hf] at this
    exact this.mono fun e w' h => RetW.of h
  have hres : lowV (p * r) (q * s) = .tuple #[.agg #[.int .i64 fn, .int .i64 fd], .int .i64 fe] := hf
  rw [hres]
  clear h1 h2 hp hq hr hs hf hres hden
  obtain ⟨W3, hW3⟩ : ∃ W3, W3 = (((w.alloc (.cells #[.int .i64 p, .int .i64 q] 28)).alloc (.cells #[.int .i64 r, .int .i64 s] 28)).alloc (.cells #[.int .i64 0, .int .i64 0] 28)) := ⟨_, rfl⟩
  have hB : Below w.heap.size w W3 := by rw [hW3]; exact ((((Below.refl _ _).alloc (Nat.le_refl _) _).alloc (by simp; try omega) _).alloc (by simp; try omega) _)
  have HBW := Lib.hid hB
  have HF := Lib.hid (show Two W3 (w.heap.size) (.int .i64 p) (.int .i64 q) 28 by rw [hW3]; exact (((((Two.newAt _ _ _ _ _ (by simp))).alloc _)).alloc _))
  have HG := Lib.hid (show Two W3 (w.heap.size + 1) (.int .i64 r) (.int .i64 s) 28 by rw [hW3]; exact (((Two.newAt _ _ _ _ _ (by simp))).alloc _))
  have HR := Lib.hid (show Two W3 (w.heap.size + 1 + 1) (.int .i64 0) (.int .i64 0) 28 by rw [hW3]; exact (Two.newAt _ _ _ _ _ (by simp)))
  clear hB
  go_enter Tryz.func37, Tryz.ntmps37
  go_upto_region 1 with fail
  rw [← hW3]
  clear hW3
  have k0 := HF.out.cell0
  have k1 := HF.out.cell1
  have k2 := HG.out.cell0
  have k3 := HG.out.cell1
  have cc := cv W3
  go_wp2_with fail
  refine cc.mono ?_
  rintro e V1 ⟨v1, rfl, hm1, hb1⟩
  subst hm1
  have hw1 := HBW.out.trans (hb1.mono HBW.out.size)
  clear cc cv k0 k1 k2 k3
  have XF := Lib.hid (HF.out.below hb1 HF.out.lt)
  have XG := Lib.hid (HG.out.below hb1 HG.out.lt)
  have XR := Lib.hid (HR.out.below hb1 HR.out.lt)
  have XB := Lib.hid hw1
  clear hb1 hw1 HF HG HR HBW
  go_upto_region 3 with fail
  refine Lex.wp_region_lex (fun w' => Two w' w.heap.size (.int .i64 p) (.int .i64 q) 28 ∧ Two w' (w.heap.size + 1) (.int .i64 r) (.int .i64 s) 28) (fun _ => true)
    [(0, true), (2, true), (1, false), (3, false), (4, false), (5, false), (6, true), (7, true), (8, false), (9, false)]
    (by kernel_rfl) (by kernel_rfl) (by kernel_rfl) (by kernel_rfl) ⟨XF.out, XG.out⟩ ?_
  have hb2 : Below V1.heap.size V1 V1.drew := ⟨rfl, rfl, rfl, Nat.le_refl _, fun _ _ => rfl⟩
  have hw2 : Below w.heap.size w V1.drew := ⟨XB.out.os, XB.out.tape, XB.out.output, XB.out.size, XB.out.block⟩
  generalize hV0 : V1.drew = V2 at *
  clear hV0
  refine Lex.lex_take (v := ?_) rfl rfl (by rfl) (fun _ hS => ?_) ?_; rotate_left 1; (focus (have g0_0 := hS.1.cell0; have g0_1 := hS.1.cell1; have g1_0 := hS.2.cell0; have g1_1 := hS.2.cell1; clear hS; go_simp; with_reducible rfl)); simp only [List.setIfInBounds_toArray, List.set_cons_zero, List.set_cons_succ]
  refine Lex.lex_take (v := ?_) rfl rfl (by rfl) (fun _ hS => ?_) ?_; rotate_left 1; (focus (have g0_0 := hS.1.cell0; have g0_1 := hS.1.cell1; have g1_0 := hS.2.cell0; have g1_1 := hS.2.cell1; clear hS; go_simp; with_reducible rfl)); simp only [List.setIfInBounds_toArray, List.set_cons_zero, List.set_cons_succ]
  refine Lex.lex_do rfl ?_
  have cc := ca V2 hw2
  go_wp2_with fail
  refine cc.mono ?_
  rintro e V3 ⟨v3, rfl, hm3, hn3⟩
  have hb3 := hb2.trans (hn3.mono hb2.size)
  have hw3 := hw2.trans (hn3.mono hw2.size)
  clear cc hb2 hw2 hn3
  go_wp2_with fail
  refine Lex.lexQ_normal (fun _ => ⟨XF.out.below hb3 XF.out.lt, XG.out.below hb3 XG.out.lt⟩) ?_
  refine Lex.lex_do rfl ?_
  have cc := cb V3 hw3
  go_wp2_with fail
  refine cc.mono ?_
  rintro e V4 ⟨v4, rfl, hm4, hn4⟩
  have hb4 := hb3.trans (hn4.mono hb3.size)
  have hw4 := hw3.trans (hn4.mono hw3.size)
  have hm3 := hm3.below hn4
  clear cc hb3 hw3 hn4
  go_wp2_with fail
  refine Lex.lexQ_normal (fun _ => ⟨XF.out.below hb4 XF.out.lt, XG.out.below hb4 XG.out.lt⟩) ?_
  refine Lex.lex_do rfl ?_
  have cc := cm V4 hw4 _ _ hm3 hm4
  go_wp2_with fail
  refine cc.mono ?_
  rintro e V5 ⟨v5, rfl, hm5, hn5⟩
  have hb5 := hb4.trans (hn5.mono hb4.size)
  have hw5 := hw4.trans (hn5.mono hw4.size)
  clear hm3 hm4
  clear cc hb4 hw4 hn5
  go_wp2_with fail
  refine Lex.lexQ_normal (fun _ => ⟨XF.out.below hb5 XF.out.lt, XG.out.below hb5 XG.out.lt⟩) ?_
  refine Lex.lex_do rfl ?_
  have cc := cf V5 hw5 _ hm5
  go_wp2_with fail
  refine cc.mono ?_
  rintro e V6 ⟨v6, rfl, hm6, hn6⟩
  have hb6 := hb5.trans (hn6.mono hb5.size)
  have hw6 := hw5.trans (hn6.mono hw5.size)
  clear hm5
  subst hm6
  clear cc hb5 hw5 hn6
  go_wp2_with fail
  refine Lex.lexQ_normal (fun _ => ⟨XF.out.below hb6 XF.out.lt, XG.out.below hb6 XG.out.lt⟩) ?_
  refine Lex.lex_take (v := ?_) rfl rfl (by rfl) (fun _ hS => ?_) ?_; rotate_left 1; (focus (have g0_0 := hS.1.cell0; have g0_1 := hS.1.cell1; have g1_0 := hS.2.cell0; have g1_1 := hS.2.cell1; clear hS; go_simp; with_reducible rfl)); simp only [List.setIfInBounds_toArray, List.set_cons_zero, List.set_cons_succ]
  refine Lex.lex_take (v := ?_) rfl rfl (by rfl) (fun _ hS => ?_) ?_; rotate_left 1; (focus (have g0_0 := hS.1.cell0; have g0_1 := hS.1.cell1; have g1_0 := hS.2.cell0; have g1_1 := hS.2.cell1; clear hS; go_simp; with_reducible rfl)); simp only [List.setIfInBounds_toArray, List.set_cons_zero, List.set_cons_succ]
  refine Lex.lex_do rfl ?_
  have R := XR.out.below hb6 XR.out.lt
  have r0 := R.cell0
  have r1 := R.cell1
  have g0 := R.free 0
  have g1 := R.free 1
  have E0 := ((XF.out.below hb6 XF.out.lt).setOther ⟨w.heap.size + 1 + 1, 0, none⟩ (.int .i64 fn) (by dsimp only; omega)).setOther ⟨w.heap.size + 1 + 1, 1, none⟩ (.int .i64 fd) (by dsimp only; omega)
  have E1 := ((XG.out.below hb6 XG.out.lt).setOther ⟨w.heap.size + 1 + 1, 0, none⟩ (.int .i64 fn) (by dsimp only; omega)).setOther ⟨w.heap.size + 1 + 1, 1, none⟩ (.int .i64 fd) (by dsimp only; omega)
  have HE0 := Lib.hid E0
  have HE1 := Lib.hid E1
  have HE := Lib.hid hw6
  clear R E0 E1
  go_wp2_with fail
  refine Lex.lexQ_normal (fun _ => ⟨HE0.out, HE1.out⟩) ?_
  refine Lex.lex_do rfl ?_
  go_wp2_with fail
  refine Lex.lexQ_normal (fun _ => ⟨HE0.out, HE1.out⟩) ?_
  refine Lex.lex_nil ?_
  clear hb6 hw6
  go_wp2
  refine bodyPost_ret (v := .tuple #[.agg #[.int .i64 fn, .int .i64 fd], .int .i64 fe]) (by simp [results, Tryz.results37, go_sem, r0, r1]) rfl ⟨rfl, ?_⟩
  exact (HE.out.setCell (by dsimp only; omega) _).setCell (by dsimp only; omega) _

set_option maxRecDepth 100000 in
set_option maxHeartbeats 1600000 in
theorem gmul_bad (p q r s : Int) (w : World) (hp : I64 p) (hq : I64 q) (hr : I64 r) (hs : I64 s) (h : ¬ (FOk (p, q) ∧ FOk (r, s))) :
    Calls Tryz.prog 37 #[.agg #[.int .i64 p, .int .i64 q], .agg #[.int .i64 r, .int .i64 s]] w (RetV (.tuple #[.agg #[.int .i64 0, .int .i64 0], .int .i64 2]) w) := by
  have cv := fun W => valid_two hp hq hr hs false (decide_eq_false h) W
  clear h hp hq hr hs
  obtain ⟨W3, hW3⟩ : ∃ W3, W3 = (((w.alloc (.cells #[.int .i64 p, .int .i64 q] 28)).alloc (.cells #[.int .i64 r, .int .i64 s] 28)).alloc (.cells #[.int .i64 0, .int .i64 0] 28)) := ⟨_, rfl⟩
  have hB : Below w.heap.size w W3 := by rw [hW3]; exact ((((Below.refl _ _).alloc (Nat.le_refl _) _).alloc (by simp; try omega) _).alloc (by simp; try omega) _)
  have HBW := Lib.hid hB
  have HF := Lib.hid (show Two W3 (w.heap.size) (.int .i64 p) (.int .i64 q) 28 by rw [hW3]; exact (((((Two.newAt _ _ _ _ _ (by simp))).alloc _)).alloc _))
  have HG := Lib.hid (show Two W3 (w.heap.size + 1) (.int .i64 r) (.int .i64 s) 28 by rw [hW3]; exact (((Two.newAt _ _ _ _ _ (by simp))).alloc _))
  have HR := Lib.hid (show Two W3 (w.heap.size + 1 + 1) (.int .i64 0) (.int .i64 0) 28 by rw [hW3]; exact (Two.newAt _ _ _ _ _ (by simp)))
  clear hB
  go_enter Tryz.func37, Tryz.ntmps37
  go_upto_region 1 with fail
  rw [← hW3]
  clear hW3
  have k0 := HF.out.cell0
  have k1 := HF.out.cell1
  have k2 := HG.out.cell0
  have k3 := HG.out.cell1
  have cc := cv W3
  go_wp2_with fail
  refine cc.mono ?_
  rintro e V1 ⟨v1, rfl, hm1, hb1⟩
  subst hm1
  have hw1 := HBW.out.trans (hb1.mono HBW.out.size)
  clear cc cv k0 k1 k2 k3
  have R := HR.out.below hb1 HR.out.lt
  have HW := Lib.hid hw1
  have r0 := R.cell0
  have r1 := R.cell1
  have g0 := R.free 0
  have g1 := R.free 1
  clear hb1 hw1 R
  go_wp2
  refine bodyPost_ret (v := .tuple #[.agg #[.int .i64 0, .int .i64 0], .int .i64 2]) (by simp [results, Tryz.results37, go_sem, r0, r1]) rfl ⟨rfl, ?_⟩
  exact (HW.out.setCell (by dsimp only; omega) _).setCell (by dsimp only; omega) _

set_option maxRecDepth 100000 in
set_option maxHeartbeats 1600000 in
theorem gadd_ok (p q r s : Int) (w : World) (hp : I64 p) (hq : I64 q) (hr : I64 r) (hs : I64 s) (h1 : FOk (p, q)) (h2 : FOk (r, s)) :
    Calls Tryz.prog 36 #[.agg #[.int .i64 p, .int .i64 q], .agg #[.int .i64 r, .int .i64 s]] w (RetV (lowV (p * s + r * q) (q * s)) w) := by
  have cv := fun W => valid_two hp hq hr hs true (decide_eq_true ⟨h1, h2⟩) W
  have hden : 0 < q * s := Int.mul_pos (by have := h1.1; simp at this; omega) (by have := h2.1; simp at this; omega)
  have ca := from_w hp hq (w := w)
  have cb := from_w hr hs (w := w)
  have cm : ∀ W (_ : Below w.heap.size w W) u v, IsQ W u p q 2 → IsQ W v r s 2 → Calls Tryz.prog 80 #[u, v] W (RetQ (p * s + r * q) (q * s) 5 W) := fun W _ u v g1 g2 => qadd_any g1 g2 (by omega) (by omega)
  obtain ⟨fn, fd, fe, hf⟩ := fracV_form ((p * s + r * q) / (Int.gcd (p * s + r * q) (q * s) : Nat)) ((q * s) / (Int.gcd (p * s + r * q) (q * s) : Nat))
  have cf : ∀ W (_ : Below w.heap.size w W) u, IsQ W u (p * s + r * q) (q * s) 5 → Calls Tryz.prog 75 #[u] W (RetW (.tuple #[.agg #[.int .i64 fn, .int .i64 fd], .int .i64 fe]) W) := fun W _ u g => by
    have := frac_any g (by omega) hden
    rw [hf] at this
    exact this.mono fun e w' h => RetW.of h
  have hres : lowV (p * s + r * q) (q * s) = .tuple #[.agg #[.int .i64 fn, .int .i64 fd], .int .i64 fe] := hf
  rw [hres]
  clear h1 h2 hp hq hr hs hf hres hden
  obtain ⟨W3, hW3⟩ : ∃ W3, W3 = (((w.alloc (.cells #[.int .i64 p, .int .i64 q] 28)).alloc (.cells #[.int .i64 r, .int .i64 s] 28)).alloc (.cells #[.int .i64 0, .int .i64 0] 28)) := ⟨_, rfl⟩
  have hB : Below w.heap.size w W3 := by rw [hW3]; exact ((((Below.refl _ _).alloc (Nat.le_refl _) _).alloc (by simp; try omega) _).alloc (by simp; try omega) _)
  have HBW := Lib.hid hB
  have HF := Lib.hid (show Two W3 (w.heap.size) (.int .i64 p) (.int .i64 q) 28 by rw [hW3]; exact (((((Two.newAt _ _ _ _ _ (by simp))).alloc _)).alloc _))
  have HG := Lib.hid (show Two W3 (w.heap.size + 1) (.int .i64 r) (.int .i64 s) 28 by rw [hW3]; exact (((Two.newAt _ _ _ _ _ (by simp))).alloc _))
  have HR := Lib.hid (show Two W3 (w.heap.size + 1 + 1) (.int .i64 0) (.int .i64 0) 28 by rw [hW3]; exact (Two.newAt _ _ _ _ _ (by simp)))
  clear hB
  go_enter Tryz.func36, Tryz.ntmps36
  go_upto_region 1 with fail
  rw [← hW3]
  clear hW3
  have k0 := HF.out.cell0
  have k1 := HF.out.cell1
  have k2 := HG.out.cell0
  have k3 := HG.out.cell1
  have cc := cv W3
  go_wp2_with fail
  refine cc.mono ?_
  rintro e V1 ⟨v1, rfl, hm1, hb1⟩
  subst hm1
  have hw1 := HBW.out.trans (hb1.mono HBW.out.size)
  clear cc cv k0 k1 k2 k3
  have XF := Lib.hid (HF.out.below hb1 HF.out.lt)
  have XG := Lib.hid (HG.out.below hb1 HG.out.lt)
  have XR := Lib.hid (HR.out.below hb1 HR.out.lt)
  have XB := Lib.hid hw1
  clear hb1 hw1 HF HG HR HBW
  go_upto_region 3 with fail
  refine Lex.wp_region_lex (fun w' => Two w' w.heap.size (.int .i64 p) (.int .i64 q) 28 ∧ Two w' (w.heap.size + 1) (.int .i64 r) (.int .i64 s) 28) (fun _ => true)
    [(0, true), (2, true), (1, false), (3, false), (4, false), (5, false), (6, true), (7, true), (8, false), (9, false)]
    (by kernel_rfl) (by kernel_rfl) (by kernel_rfl) (by kernel_rfl) ⟨XF.out, XG.out⟩ ?_
  have hb2 : Below V1.heap.size V1 V1.drew := ⟨rfl, rfl, rfl, Nat.le_refl _, fun _ _ => rfl⟩
  have hw2 : Below w.heap.size w V1.drew := ⟨XB.out.os, XB.out.tape, XB.out.output, XB.out.size, XB.out.block⟩
  generalize hV0 : V1.drew = V2 at *
  clear hV0
  refine Lex.lex_take (v := ?_) rfl rfl (by rfl) (fun _ hS => ?_) ?_; rotate_left 1; (focus (have g0_0 := hS.1.cell0; have g0_1 := hS.1.cell1; have g1_0 := hS.2.cell0; have g1_1 := hS.2.cell1; clear hS; go_simp; with_reducible rfl)); simp only [List.setIfInBounds_toArray, List.set_cons_zero, List.set_cons_succ]
  refine Lex.lex_take (v := ?_) rfl rfl (by rfl) (fun _ hS => ?_) ?_; rotate_left 1; (focus (have g0_0 := hS.1.cell0; have g0_1 := hS.1.cell1; have g1_0 := hS.2.cell0; have g1_1 := hS.2.cell1; clear hS; go_simp; with_reducible rfl)); simp only [List.setIfInBounds_toArray, List.set_cons_zero, List.set_cons_succ]
  refine Lex.lex_do rfl ?_
  have cc := ca V2 hw2
  go_wp2_with fail
  refine cc.mono ?_
  rintro e V3 ⟨v3, rfl, hm3, hn3⟩
  have hb3 := hb2.trans (hn3.mono hb2.size)
  have hw3 := hw2.trans (hn3.mono hw2.size)
  clear cc hb2 hw2 hn3
  go_wp2_with fail
  refine Lex.lexQ_normal (fun _ => ⟨XF.out.below hb3 XF.out.lt, XG.out.below hb3 XG.out.lt⟩) ?_
  refine Lex.lex_do rfl ?_
  have cc := cb V3 hw3
  go_wp2_with fail
  refine cc.mono ?_
  rintro e V4 ⟨v4, rfl, hm4, hn4⟩
  have hb4 := hb3.trans (hn4.mono hb3.size)
  have hw4 := hw3.trans (hn4.mono hw3.size)
  have hm3 := hm3.below hn4
  clear cc hb3 hw3 hn4
  go_wp2_with fail
  refine Lex.lexQ_normal (fun _ => ⟨XF.out.below hb4 XF.out.lt, XG.out.below hb4 XG.out.lt⟩) ?_
  refine Lex.lex_do rfl ?_
  have cc := cm V4 hw4 _ _ hm3 hm4
  go_wp2_with fail
  refine cc.mono ?_
  rintro e V5 ⟨v5, rfl, hm5, hn5⟩
  have hb5 := hb4.trans (hn5.mono hb4.size)
  have hw5 := hw4.trans (hn5.mono hw4.size)
  clear hm3 hm4
  clear cc hb4 hw4 hn5
  go_wp2_with fail
  refine Lex.lexQ_normal (fun _ => ⟨XF.out.below hb5 XF.out.lt, XG.out.below hb5 XG.out.lt⟩) ?_
  refine Lex.lex_do rfl ?_
  have cc := cf V5 hw5 _ hm5
  go_wp2_with fail
  refine cc.mono ?_
  rintro e V6 ⟨v6, rfl, hm6, hn6⟩
  have hb6 := hb5.trans (hn6.mono hb5.size)
  have hw6 := hw5.trans (hn6.mono hw5.size)
  clear hm5
  subst hm6
  clear cc hb5 hw5 hn6
  go_wp2_with fail
  refine Lex.lexQ_normal (fun _ => ⟨XF.out.below hb6 XF.out.lt, XG.out.below hb6 XG.out.lt⟩) ?_
  refine Lex.lex_take (v := ?_) rfl rfl (by rfl) (fun _ hS => ?_) ?_; rotate_left 1; (focus (have g0_0 := hS.1.cell0; have g0_1 := hS.1.cell1; have g1_0 := hS.2.cell0; have g1_1 := hS.2.cell1; clear hS; go_simp; with_reducible rfl)); simp only [List.setIfInBounds_toArray, List.set_cons_zero, List.set_cons_succ]
  refine Lex.lex_take (v := ?_) rfl rfl (by rfl) (fun _ hS => ?_) ?_; rotate_left 1; (focus (have g0_0 := hS.1.cell0; have g0_1 := hS.1.cell1; have g1_0 := hS.2.cell0; have g1_1 := hS.2.cell1; clear hS; go_simp; with_reducible rfl)); simp only [List.setIfInBounds_toArray, List.set_cons_zero, List.set_cons_succ]
  refine Lex.lex_do rfl ?_
  have R := XR.out.below hb6 XR.out.lt
  have r0 := R.cell0
  have r1 := R.cell1
  have g0 := R.free 0
  have g1 := R.free 1
  have E0 := ((XF.out.below hb6 XF.out.lt).setOther ⟨w.heap.size + 1 + 1, 0, none⟩ (.int .i64 fn) (by dsimp only; omega)).setOther ⟨w.heap.size + 1 + 1, 1, none⟩ (.int .i64 fd) (by dsimp only; omega)
  have E1 := ((XG.out.below hb6 XG.out.lt).setOther ⟨w.heap.size + 1 + 1, 0, none⟩ (.int .i64 fn) (by dsimp only; omega)).setOther ⟨w.heap.size + 1 + 1, 1, none⟩ (.int .i64 fd) (by dsimp only; omega)
  have HE0 := Lib.hid E0
  have HE1 := Lib.hid E1
  have HE := Lib.hid hw6
  clear R E0 E1
  go_wp2_with fail
  refine Lex.lexQ_normal (fun _ => ⟨HE0.out, HE1.out⟩) ?_
  refine Lex.lex_do rfl ?_
  go_wp2_with fail
  refine Lex.lexQ_normal (fun _ => ⟨HE0.out, HE1.out⟩) ?_
  refine Lex.lex_nil ?_
  clear hb6 hw6
  go_wp2
  refine bodyPost_ret (v := .tuple #[.agg #[.int .i64 fn, .int .i64 fd], .int .i64 fe]) (by simp [results, Tryz.results36, go_sem, r0, r1]) rfl ⟨rfl, ?_⟩
  exact (HE.out.setCell (by dsimp only; omega) _).setCell (by dsimp only; omega) _

set_option maxRecDepth 100000 in
set_option maxHeartbeats 1600000 in
theorem gadd_bad (p q r s : Int) (w : World) (hp : I64 p) (hq : I64 q) (hr : I64 r) (hs : I64 s) (h : ¬ (FOk (p, q) ∧ FOk (r, s))) :
    Calls Tryz.prog 36 #[.agg #[.int .i64 p, .int .i64 q], .agg #[.int .i64 r, .int .i64 s]] w (RetV (.tuple #[.agg #[.int .i64 0, .int .i64 0], .int .i64 2]) w) := by
  have cv := fun W => valid_two hp hq hr hs false (decide_eq_false h) W
  clear h hp hq hr hs
  obtain ⟨W3, hW3⟩ : ∃ W3, W3 = (((w.alloc (.cells #[.int .i64 p, .int .i64 q] 28)).alloc (.cells #[.int .i64 r, .int .i64 s] 28)).alloc (.cells #[.int .i64 0, .int .i64 0] 28)) := ⟨_, rfl⟩
  have hB : Below w.heap.size w W3 := by rw [hW3]; exact ((((Below.refl _ _).alloc (Nat.le_refl _) _).alloc (by simp; try omega) _).alloc (by simp; try omega) _)
  have HBW := Lib.hid hB
  have HF := Lib.hid (show Two W3 (w.heap.size) (.int .i64 p) (.int .i64 q) 28 by rw [hW3]; exact (((((Two.newAt _ _ _ _ _ (by simp))).alloc _)).alloc _))
  have HG := Lib.hid (show Two W3 (w.heap.size + 1) (.int .i64 r) (.int .i64 s) 28 by rw [hW3]; exact (((Two.newAt _ _ _ _ _ (by simp))).alloc _))
  have HR := Lib.hid (show Two W3 (w.heap.size + 1 + 1) (.int .i64 0) (.int .i64 0) 28 by rw [hW3]; exact (Two.newAt _ _ _ _ _ (by simp)))
  clear hB
  go_enter Tryz.func36, Tryz.ntmps36
  go_upto_region 1 with fail
  rw [← hW3]
  clear hW3
  have k0 := HF.out.cell0
  have k1 := HF.out.cell1
  have k2 := HG.out.cell0
  have k3 := HG.out.cell1
  have cc := cv W3
  go_wp2_with fail
  refine cc.mono ?_
  rintro e V1 ⟨v1, rfl, hm1, hb1⟩
  subst hm1
  have hw1 := HBW.out.trans (hb1.mono HBW.out.size)
  clear cc cv k0 k1 k2 k3
  have R := HR.out.below hb1 HR.out.lt
  have HW := Lib.hid hw1
  have r0 := R.cell0
  have r1 := R.cell1
  have g0 := R.free 0
  have g1 := R.free 1
  clear hb1 hw1 R
  go_wp2
  refine bodyPost_ret (v := .tuple #[.agg #[.int .i64 0, .int .i64 0], .int .i64 2]) (by simp [results, Tryz.results36, go_sem, r0, r1]) rfl ⟨rfl, ?_⟩
  exact (HW.out.setCell (by dsimp only; omega) _).setCell (by dsimp only; omega) _

end Go.Proofs.YtklngjjokbhfpaaGreat
