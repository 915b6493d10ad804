/- wide's Ratio, gear's Make, ref's Over, Make: all denominators (printed by genfa.py). -/
import Derived.Test.YtklngjjokbhfpaaGreatPkDj
import Derived.Test.YtklngjjokbhfpaaGreatPkCh
namespace Go.Proofs.YtklngjjokbhfpaaGreat
open Go.RowKit

theorem IsZ.neg' {w : World} {v : Value} {z : Int} {N : Nat} (h : IsZ w v z N) (hz : z < 0) : ∃ (A : Option Addr) (n c : Nat), v = .agg #[.bool true, .slice A n c] := by
  obtain ⟨neg, A, n, c, m, rfl, hm, h1, h2, -⟩ := h.open'
  have hn := hm.nonneg
  have hneg : neg = true := by
    cases neg with
    | true => rfl
    | false => simp at h1; omega
  subst hneg
  exact ⟨A, n, c, rfl⟩
theorem IsR.neg' {w : World} {v : Value} {z : Int} {N : Nat} (h : IsR w v z N) (hz : z < 0) : ∃ (A : Option Addr) (n c : Nat), v = .agg #[.bool true, .slice A n c] := by
  obtain ⟨neg, A, n, c, m, rfl, hm, h1, h2, -⟩ := h.open'
  have hn := hm.nonneg
  have hneg : neg = true := by
    cases neg with
    | true => rfl
    | false => simp at h1; omega
  subst hneg
  exact ⟨A, n, c, rfl⟩
theorem zcell_no' {b : Bool} {A : Option Addr} {n c : Nat} (off : Nat) (x : Int) : (#[.bool b, .slice A n c] : Array Value)[off]? ≠ some (.int .u32 x) := by
  intro h
  rcases off with _ | _ | off <;> simp at h
theorem IsZ.set01 {w : World} {v : Value} {z : Int} {N : Nat} (h : IsZ w v z N) {R : Nat} {b : Bool} {A : Option Addr} {n c : Nat} {t : TypeId} (hR : Two w R (.bool b) (.slice A n c) t) (u0 u1 : Value) : IsZ ((w.setCell ⟨R, 0, none⟩ u0).setCell ⟨R, 1, none⟩ u1) v z N :=
  h.put hR zcell_no' (by simp [World.setCell]) fun k hk => by rw [Below.heap_setCell _ _ _ _ (by simpa using hk), Below.heap_setCell _ _ _ _ (by simpa using hk)]
theorem Four.set01 {w : World} {B R : Nat} {a b c d u v : Value} {t : TypeId} (h : Four w B a b c d t) (hp : B ≠ R) : Four ((w.setCell ⟨R, 0, none⟩ u).setCell ⟨R, 1, none⟩ v) B a b c d t := by
  unfold Four at *
  rw [Below.heap_setCell _ _ _ _ (by simpa using hp), Below.heap_setCell _ _ _ _ (by simpa using hp)]
  exact h
theorem Two.set01 {w : World} {B R : Nat} {a b u v : Value} {t : TypeId} (h : Two w B a b t) (hp : B ≠ R) : Two ((w.setCell ⟨R, 0, none⟩ u).setCell ⟨R, 1, none⟩ v) B a b t := by
  unfold Two at *
  rw [Below.heap_setCell _ _ _ _ (by simpa using hp), Below.heap_setCell _ _ _ _ (by simpa using hp)]
  exact h
theorem Two.put {w : World} {B : Nat} {a b : Value} {t : TypeId} (h : Two w B a b t) (u v : Value) : Two ((w.setCell ⟨B, 0, none⟩ u).setCell ⟨B, 1, none⟩ v) B u v t := (h.set0 u).set1 v

set_option maxRecDepth 100000 in
set_option maxHeartbeats 1600000 in
theorem qratio_neg {w : World} {u v : Value} {p q : Int} {N : Nat} (hu : IsZ w u p N) (hv : IsZ w v q N) (hq : q < 0) (hN : N ≤ 10000) :
    Calls Tryz.prog 73 #[u, v] w (RetQ (-p) (-q) N w) := by
  obtain ⟨p0, A0, n0, c0, rfl⟩ := hu.agg'
  obtain ⟨A1, n1, c1, rfl⟩ := hv.neg' hq
  have ca : ∀ W, Below w.heap.size w W → Calls Tryz.prog 114 #[.agg #[.bool p0.1, .slice A0 n0 c0]] W (RetZ (-p) N W) := fun W hb => neg_any _ _ _ W (hu.below hb) hN
  have cb : ∀ W, Below w.heap.size w W → Calls Tryz.prog 114 #[.agg #[.bool true, .slice A1 n1 c1]] W (RetZ (-q) N W) := fun W hb => neg_any _ _ _ W (hv.below hb) hN
  clear hu hv hq hN
  obtain ⟨W3, hW3⟩ : ∃ W3, W3 = (((w.alloc (.cells #[.bool p0.1, .slice A0 n0 c0] 96)).alloc (.cells #[.bool true, .slice A1 n1 c1] 96)).alloc (.cells #[.bool false, .slice none 0 0, .bool false, .slice none 0 0] 98)) := ⟨_, rfl⟩
  have hB : Below w.heap.size w W3 := by rw [hW3]; exact ((((Below.refl _ _).alloc (Nat.le_refl _) _).alloc (by simp; try omega) _).alloc (by simp; try omega) _)
  have HBW := Lib.hid hB
  have HF := Lib.hid (show Two W3 (w.heap.size) (.bool p0.1) (.slice A0 n0 c0) 96 by rw [hW3]; exact (((((Two.newAt _ _ _ _ _ (by simp))).alloc _)).alloc _))
  have HG := Lib.hid (show Two W3 (w.heap.size + 1) (.bool true) (.slice A1 n1 c1) 96 by rw [hW3]; exact (((Two.newAt _ _ _ _ _ (by simp))).alloc _))
  have HR := Lib.hid (show Four W3 (w.heap.size + 1 + 1) (.bool false) (.slice none 0 0) (.bool false) (.slice none 0 0) 98 by rw [hW3]; exact (Four.newAt _ _ _ _ _ _ _ (by simp)))
  clear hB
  go_enter Tryz.func73, Tryz.ntmps73
  go_upto_region 1 with fail
  rw [← hW3]
  clear hW3
  have k2 := HG.out.cell0
  go_upto_region 2 with fail
  clear k2
  refine Lex.wp_region_lex (fun w' => Two w' (w.heap.size + 1) (.bool true) (.slice A1 n1 c1) 96) (fun j => j != 5)
    [(2, true), (0, false), (1, false), (3, false), (4, false), (5, false)]
    (by kernel_rfl) (by kernel_rfl) (by kernel_rfl) (by kernel_rfl) HG.out ?_
  iterate 1 (refine Lex.lex_take (v := ?_) rfl rfl (by rfl) (fun _ hS => ?_) ?_; rotate_left 1; (focus (have g0_0 := hS.cell0; have g0_1 := hS.cell1; clear hS; go_simp; with_reducible rfl)); simp only [List.setIfInBounds_toArray, List.set_cons_zero, List.set_cons_succ])
  refine Lex.lex_do rfl ?_
  have hb0 : Below W3.heap.size W3 W3.drew := ⟨rfl, rfl, rfl, Nat.le_refl _, fun _ _ => rfl⟩
  have hw0 : Below w.heap.size w W3.drew := ⟨HBW.out.os, HBW.out.tape, HBW.out.output, HBW.out.size, HBW.out.block⟩
  generalize hV0 : W3.drew = V0 at *
  clear hV0
  have e0 := (HF.out.below hb0 HF.out.lt).cell0
  have e1 := (HF.out.below hb0 HF.out.lt).cell1
  go_wp2_with fail
  have E0 := HG.out.below hb0 HG.out.lt
  refine Lex.lexQ_normal (fun _ => E0) ?_
  refine Lex.lex_do rfl ?_
  clear E0
  clear e0 e1
  have cc := ca V0 hw0
  go_wp2_with fail
  refine cc.mono ?_
  rintro e V1 ⟨v1, rfl, hm1, hn1⟩
  have hb1 := hb0.trans (hn1.mono hb0.size)
  have hw1 := hw0.trans (hn1.mono hw0.size)
  clear cc hb0 hw0 hn1
  go_wp2_with fail
  have E0 := HG.out.below hb1 HG.out.lt
  refine Lex.lexQ_normal (fun _ => E0) ?_
  refine Lex.lex_do rfl ?_
  clear E0
  have cc := cb V1 hw1
  go_wp2_with fail
  refine cc.mono ?_
  rintro e V2 ⟨v2, rfl, hm2, hn2⟩
  have hb2 := hb1.trans (hn2.mono hb1.size)
  have hw2 := hw1.trans (hn2.mono hw1.size)
  have hm1 := hm1.below hn2
  clear cc hb1 hw1 hn2
  go_wp2_with fail
  have E0 := HG.out.below hb2 HG.out.lt
  refine Lex.lexQ_normal (fun _ => E0) ?_
  refine Lex.lex_do rfl ?_
  clear E0
  obtain ⟨p5, A5, n5, c5, rfl⟩ := hm1.agg'
  obtain ⟨p6, A6, n6, c6, rfl⟩ := hm2.agg'
  have F1 := HF.out.below hb2 HF.out.lt
  have F2 := HG.out.below hb2 HG.out.lt
  have F3 := HR.out.below hb2 HR.out.lt
  have r0 := F1.cell0
  have r1 := F1.cell1
  have g0 := F1.free 0
  have g1 := F1.free 1
  obtain ⟨U1, hU1⟩ : ∃ U1, U1 = (V2.setCell ⟨w.heap.size, 0, none⟩ (.bool p5.1)).setCell ⟨w.heap.size, 1, none⟩ (.slice A5 n5 c5) := ⟨_, rfl⟩
  have HU1 := Lib.hid hU1
  clear hU1
  have G1 := Lib.hid (show Two U1 w.heap.size _ _ _ by rw [HU1.out]; exact F1.put _ _)
  have G2 := Lib.hid (show Two U1 (w.heap.size + 1) _ _ _ by rw [HU1.out]; exact F2.set01 (by omega))
  have G3 := Lib.hid (show Four U1 (w.heap.size + 1 + 1) _ _ _ _ _ by rw [HU1.out]; exact F3.set01 (by omega))
  have M1 := Lib.hid (show IsZ U1 _ _ _ by rw [HU1.out]; exact hm1.set01 F1 _ _)
  have M2 := Lib.hid (show IsZ U1 _ _ _ by rw [HU1.out]; exact hm2.set01 F1 _ _)
  have WW := Lib.hid (show Below w.heap.size w U1 by rw [HU1.out]; exact (hw2.setCell (by dsimp only; omega) _).setCell (by dsimp only; omega) _)
  clear hm1 hm2 F1 F2 F3 hb2 hw2
  go_wp2_with fail
  rw [← HU1.out]
  clear r0 r1 g0 g1 HU1
  have E0 := G2.out
  refine Lex.lexQ_normal (fun _ => E0) ?_
  refine Lex.lex_do rfl ?_
  clear E0
  have r0 := G2.out.cell0
  have r1 := G2.out.cell1
  have g0 := G2.out.free 0
  have g1 := G2.out.free 1
  obtain ⟨U2, hU2⟩ : ∃ U2, U2 = (U1.setCell ⟨w.heap.size + 1, 0, none⟩ (.bool p6.1)).setCell ⟨w.heap.size + 1, 1, none⟩ (.slice A6 n6 c6) := ⟨_, rfl⟩
  have HU2 := Lib.hid hU2
  clear hU2
  have K1 := Lib.hid (show Two U2 w.heap.size _ _ _ by rw [HU2.out]; exact G1.out.set01 (by omega))
  have K2 := Lib.hid (show Two U2 (w.heap.size + 1) _ _ _ by rw [HU2.out]; exact G2.out.put _ _)
  have K3 := Lib.hid (show Four U2 (w.heap.size + 1 + 1) _ _ _ _ _ by rw [HU2.out]; exact G3.out.set01 (by omega))
  have L1 := Lib.hid (show IsZ U2 _ _ _ by rw [HU2.out]; exact M1.out.set01 G2.out _ _)
  have L2 := Lib.hid (show IsZ U2 _ _ _ by rw [HU2.out]; exact M2.out.set01 G2.out _ _)
  have WE := Lib.hid (show Below w.heap.size w U2 by rw [HU2.out]; exact (WW.out.setCell (by dsimp only; omega) _).setCell (by dsimp only; omega) _)
  clear G1 G2 G3 M1 M2 WW
  go_wp2_with fail
  rw [← HU2.out]
  clear r0 r1 g0 g1 HU2
  refine Lex.lexQ_normal (fun h => absurd h (by decide)) ?_
  refine Lex.lex_nil ?_
  have k0 := K1.out.cell0
  have k1 := K1.out.cell1
  have k2 := K2.out.cell0
  have k3 := K2.out.cell1
  have r0 := K3.out.cell0
  have r1 := K3.out.cell1
  have r2 := K3.out.cell2
  have r3 := K3.out.cell3
  have g0 := K3.out.free 0
  have g1 := K3.out.free 1
  have g2 := K3.out.free 2
  have g3 := K3.out.free 3
  go_wp2
  refine bodyPost_ret (v := .agg #[.bool p5.1, .slice A5 n5 c5, .bool p6.1, .slice A6 n6 c6]) (by simp [results, Tryz.results73, go_sem, r0, r1, r2, r3]) rfl ⟨_, rfl, ⟨p5.1, _, p6.1, _, rfl, L1.out.storedF K3.out, L2.out.storedF K3.out⟩, ?_⟩
  exact (((WE.out.setCell (by simp; try omega) _).setCell (by simp; try omega) _).setCell (by simp; try omega) _).setCell (by simp; try omega) _

set_option maxRecDepth 100000 in
set_option maxHeartbeats 1600000 in
theorem qmake_neg (p q : Int) (w : World) (hp : I64 p) (hq : I64 q) (hd : q < 0) :
    Calls Tryz.prog 27 #[.int .i64 p, .int .i64 q] w (RetV (lowV (-p) (-q)) w) := by
  have c1 := fun W (_ : Below w.heap.size w W) => of_any p W hp
  have c2 := fun W (_ : Below w.heap.size w W) => of_any q W hq
  have c3 : ∀ W (_ : Below w.heap.size w W) u v, IsZ W u p 2 → IsZ W v q 2 → Calls Tryz.prog 73 #[u, v] W (RetQ (-p) (-q) 2 W) := fun W _ u v g1 g2 => qratio_neg g1 g2 hd (by omega)
  obtain ⟨fn, fd, fe, hf⟩ := fracV_form ((-p) / (Int.gcd (-p) (-q) : Nat)) ((-q) / (Int.gcd (-p) (-q) : Nat))
  have hres : lowV (-p) (-q) = .tuple #[.agg #[.int .i64 fn, .int .i64 fd], .int .i64 fe] := hf
  have c4 : ∀ W (_ : Below w.heap.size w W) u, IsQ W u (-p) (-q) 2 → Calls Tryz.prog 75 #[u] W (RetW (.tuple #[.agg #[.int .i64 fn, .int .i64 fd], .int .i64 fe]) W) := fun W _ u g => by
    have := frac_any g (by omega) (by omega)
    rw [hf] at this
    exact this.mono fun e w' h => RetW.of h
  rw [hres]
  have e0 : (q == 0) = false := by simp; omega
  clear hp hq hf hres hd
  obtain ⟨W3, hW3⟩ : ∃ W3, W3 = (w.alloc (.cells #[.int .i64 0, .int .i64 0] 28)) := ⟨_, rfl⟩
  have hB : Below w.heap.size w W3 := by rw [hW3]; exact ((Below.refl _ _).alloc (Nat.le_refl _) _)
  have HBW := Lib.hid hB
  have HR := Lib.hid (show Two W3 (w.heap.size) (.int .i64 0) (.int .i64 0) 28 by rw [hW3]; exact (Two.newAt _ _ _ _ _ (by simp)))
  clear hB
  go_enter Tryz.func27, Tryz.ntmps27
  go_upto_region 1 with fail
  rw [← hW3]
  clear hW3
  have k0_0 := HR.out.cell0
  have k0_1 := HR.out.cell1
  have hb0 := Below.refl W3.heap.size W3
  have hw0 := HBW.out
  have cc := c1 W3 hw0
  go_wp2_with fail
  refine cc.mono ?_
  rintro e V1 ⟨v1, rfl, hm1, hn1⟩
  have hb1 := hb0.trans (hn1.mono hb0.size)
  have hw1 := hw0.trans (hn1.mono hw0.size)
  clear cc hb0 hw0 hn1
  clear k0_0 k0_1
  have k0_0 := (HR.out.below hb1 HR.out.lt).cell0
  have k0_1 := (HR.out.below hb1 HR.out.lt).cell1
  have cc := c2 V1 hw1
  go_wp2_with fail
  refine cc.mono ?_
  rintro e V2 ⟨v2, rfl, hm2, hn2⟩
  have hb2 := hb1.trans (hn2.mono hb1.size)
  have hw2 := hw1.trans (hn2.mono hw1.size)
  have hm1 := hm1.below hn2
  clear cc hb1 hw1 hn2
  clear k0_0 k0_1
  have k0_0 := (HR.out.below hb2 HR.out.lt).cell0
  have k0_1 := (HR.out.below hb2 HR.out.lt).cell1
  have cc := c3 V2 hw2 _ _ hm1 hm2
  go_wp2_with fail
  refine cc.mono ?_
  rintro e V3 ⟨v3, rfl, hm3, hn3⟩
  have hb3 := hb2.trans (hn3.mono hb2.size)
  have hw3 := hw2.trans (hn3.mono hw2.size)
  clear hm1 hm2
  clear cc hb2 hw2 hn3
  clear k0_0 k0_1
  have k0_0 := (HR.out.below hb3 HR.out.lt).cell0
  have k0_1 := (HR.out.below hb3 HR.out.lt).cell1
  have cc := c4 V3 hw3 _ hm3
  go_wp2_with fail
  refine cc.mono ?_
  rintro e V4 ⟨v4, rfl, hm4, hn4⟩
  have hb4 := hb3.trans (hn4.mono hb3.size)
  have hw4 := hw3.trans (hn4.mono hw3.size)
  clear hm3
  subst hm4
  clear cc hb3 hw3 hn4
  clear k0_0 k0_1
  have k0_0 := (HR.out.below hb4 HR.out.lt).cell0
  have k0_1 := (HR.out.below hb4 HR.out.lt).cell1
  have HE := Lib.hid hw4
  have g0 := (HR.out.below hb4 HR.out.lt).free 0
  have g1 := (HR.out.below hb4 HR.out.lt).free 1
  clear hb4 hw4
  go_wp2
  refine bodyPost_ret (v := .tuple #[.agg #[.int .i64 fn, .int .i64 fd], .int .i64 fe]) (by simp [results, Tryz.results27, go_sem, k0_0, k0_1]) rfl ⟨rfl, ?_⟩
  exact (HE.out.setCell (by dsimp only; omega) _).setCell (by dsimp only; omega) _

set_option maxRecDepth 100000 in
set_option maxHeartbeats 1600000 in
theorem qmake_zero (p : Int) (w : World) :
    Calls Tryz.prog 27 #[.int .i64 p, .int .i64 0] w (RetV (.tuple #[.agg #[.int .i64 0, .int .i64 0], .int .i64 4]) w) := by
  obtain ⟨W3, hW3⟩ : ∃ W3, W3 = (w.alloc (.cells #[.int .i64 0, .int .i64 0] 28)) := ⟨_, rfl⟩
  have hB : Below w.heap.size w W3 := by rw [hW3]; exact ((Below.refl _ _).alloc (Nat.le_refl _) _)
  have HBW := Lib.hid hB
  have HR := Lib.hid (show Two W3 (w.heap.size) (.int .i64 0) (.int .i64 0) 28 by rw [hW3]; exact (Two.newAt _ _ _ _ _ (by simp)))
  clear hB
  go_enter Tryz.func27, Tryz.ntmps27
  go_upto_region 1 with fail
  rw [← hW3]
  clear hW3
  have k0 := HR.out.cell0
  have k1 := HR.out.cell1
  have g0 := HR.out.free 0
  have g1 := HR.out.free 1
  go_wp2
  refine bodyPost_ret (v := .tuple #[.agg #[.int .i64 0, .int .i64 0], .int .i64 4]) (by simp [results, Tryz.results27, go_sem, k0, k1]) rfl ⟨rfl, ?_⟩
  exact (HBW.out.setCell (by dsimp only; omega) _).setCell (by dsimp only; omega) _

/-- Make of any two integers. -/
theorem qmake_any (p q : Int) (w : World) (hp : I64 p) (hq : I64 q) :
    Calls Tryz.prog 27 #[.int .i64 p, .int .i64 q] w (RetV (if q = 0 then .tuple #[.agg #[.int .i64 0, .int .i64 0], .int .i64 4] else if q < 0 then lowV (-p) (-q) else lowV p q) w) := by
  by_cases h0 : q = 0
  · subst h0
    exact qmake_zero p w
  · rw [if_neg h0]
    by_cases h1 : q < 0
    · rw [if_pos h1]; exact qmake_neg p q w hp hq h1
    · rw [if_neg h1]; exact qmake_pos p q w hp hq (by omega)

set_option maxRecDepth 100000 in
set_option maxHeartbeats 1600000 in
theorem rratio_neg {w : World} {u v : Value} {p q : Int} {N : Nat} (hu : IsR w u p N) (hv : IsR w v q N) (hq : q < 0) (_hN : N ≤ 10000) :
    Calls Tryz.prog 76 #[u, v] w (RetRQ (-p) (-q) N w) := by
  obtain ⟨p0, A0, n0, c0, rfl⟩ := hu.agg'
  obtain ⟨A1, n1, c1, rfl⟩ := hv.neg' hq
  have ca : ∀ W, Below w.heap.size w W → Calls Tryz.prog 120 #[.agg #[.bool p0.1, .slice A0 n0 c0]] W (RetR (-p) N W) := fun W hb => rneg_any (hu.below hb)
  have cb : ∀ W, Below w.heap.size w W → Calls Tryz.prog 120 #[.agg #[.bool true, .slice A1 n1 c1]] W (RetR (-q) N W) := fun W hb => rneg_any (hv.below hb)
  clear hu hv hq
  obtain ⟨W3, hW3⟩ : ∃ W3, W3 = (((w.alloc (.cells #[.bool p0.1, .slice A0 n0 c0] 38)).alloc (.cells #[.bool true, .slice A1 n1 c1] 38)).alloc (.cells #[.bool false, .slice none 0 0, .bool false, .slice none 0 0] 40)) := ⟨_, rfl⟩
  have hB : Below w.heap.size w W3 := by rw [hW3]; exact ((((Below.refl _ _).alloc (Nat.le_refl _) _).alloc (by simp; try omega) _).alloc (by simp; try omega) _)
  have HBW := Lib.hid hB
  have HF := Lib.hid (show Two W3 (w.heap.size) (.bool p0.1) (.slice A0 n0 c0) 38 by rw [hW3]; exact (((((Two.newAt _ _ _ _ _ (by simp))).alloc _)).alloc _))
  have HG := Lib.hid (show Two W3 (w.heap.size + 1) (.bool true) (.slice A1 n1 c1) 38 by rw [hW3]; exact (((Two.newAt _ _ _ _ _ (by simp))).alloc _))
  have HR := Lib.hid (show Four W3 (w.heap.size + 1 + 1) (.bool false) (.slice none 0 0) (.bool false) (.slice none 0 0) 40 by rw [hW3]; exact (Four.newAt _ _ _ _ _ _ _ (by simp)))
  clear hB
  go_enter Tryz.func76, Tryz.ntmps76
  go_upto_region 1 with fail
  rw [← hW3]
  clear hW3
  have k2 := HG.out.cell0
  go_upto_region 2 with fail
  clear k2
  refine Lex.wp_region_lex (fun w' => Two w' (w.heap.size + 1) (.bool true) (.slice A1 n1 c1) 38) (fun j => j != 5)
    [(2, true), (0, false), (1, false), (3, false), (4, false), (5, false)]
    (by kernel_rfl) (by kernel_rfl) (by kernel_rfl) (by kernel_rfl) HG.out ?_
  iterate 1 (refine Lex.lex_take (v := ?_) rfl rfl (by rfl) (fun _ hS => ?_) ?_; rotate_left 1; (focus (have g0_0 := hS.cell0; have g0_1 := hS.cell1; clear hS; go_simp; with_reducible rfl)); simp only [List.setIfInBounds_toArray, List.set_cons_zero, List.set_cons_succ])
  refine Lex.lex_do rfl ?_
  have hb0 : Below W3.heap.size W3 W3.drew := ⟨rfl, rfl, rfl, Nat.le_refl _, fun _ _ => rfl⟩
  have hw0 : Below w.heap.size w W3.drew := ⟨HBW.out.os, HBW.out.tape, HBW.out.output, HBW.out.size, HBW.out.block⟩
  generalize hV0 : W3.drew = V0 at *
  clear hV0
  have e0 := (HF.out.below hb0 HF.out.lt).cell0
  have e1 := (HF.out.below hb0 HF.out.lt).cell1
  go_wp2_with fail
  have E0 := HG.out.below hb0 HG.out.lt
  refine Lex.lexQ_normal (fun _ => E0) ?_
  refine Lex.lex_do rfl ?_
  clear E0
  clear e0 e1
  have cc := ca V0 hw0
  go_wp2_with fail
  refine cc.mono ?_
  rintro e V1 ⟨v1, rfl, hm1, hn1⟩
  have hb1 := hb0.trans (hn1.mono hb0.size)
  have hw1 := hw0.trans (hn1.mono hw0.size)
  clear cc hb0 hw0 hn1
  go_wp2_with fail
  have E0 := HG.out.below hb1 HG.out.lt
  refine Lex.lexQ_normal (fun _ => E0) ?_
  refine Lex.lex_do rfl ?_
  clear E0
  have cc := cb V1 hw1
  go_wp2_with fail
  refine cc.mono ?_
  rintro e V2 ⟨v2, rfl, hm2, hn2⟩
  have hb2 := hb1.trans (hn2.mono hb1.size)
  have hw2 := hw1.trans (hn2.mono hw1.size)
  have hm1 := hm1.below hn2
  clear cc hb1 hw1 hn2
  go_wp2_with fail
  have E0 := HG.out.below hb2 HG.out.lt
  refine Lex.lexQ_normal (fun _ => E0) ?_
  refine Lex.lex_do rfl ?_
  clear E0
  obtain ⟨p5, A5, n5, c5, rfl⟩ := hm1.agg'
  obtain ⟨p6, A6, n6, c6, rfl⟩ := hm2.agg'
  have F1 := HF.out.below hb2 HF.out.lt
  have F2 := HG.out.below hb2 HG.out.lt
  have F3 := HR.out.below hb2 HR.out.lt
  have r0 := F1.cell0
  have r1 := F1.cell1
  have g0 := F1.free 0
  have g1 := F1.free 1
  obtain ⟨U1, hU1⟩ : ∃ U1, U1 = (V2.setCell ⟨w.heap.size, 0, none⟩ (.bool p5.1)).setCell ⟨w.heap.size, 1, none⟩ (.slice A5 n5 c5) := ⟨_, rfl⟩
  have HU1 := Lib.hid hU1
  clear hU1
  have G1 := Lib.hid (show Two U1 w.heap.size _ _ _ by rw [HU1.out]; exact F1.put _ _)
  have G2 := Lib.hid (show Two U1 (w.heap.size + 1) _ _ _ by rw [HU1.out]; exact F2.set01 (by omega))
  have G3 := Lib.hid (show Four U1 (w.heap.size + 1 + 1) _ _ _ _ _ by rw [HU1.out]; exact F3.set01 (by omega))
  have M1 := Lib.hid (show IsR U1 _ _ _ by rw [HU1.out]; exact hm1.set01 F1 _ _)
  have M2 := Lib.hid (show IsR U1 _ _ _ by rw [HU1.out]; exact hm2.set01 F1 _ _)
  have WW := Lib.hid (show Below w.heap.size w U1 by rw [HU1.out]; exact (hw2.setCell (by dsimp only; omega) _).setCell (by dsimp only; omega) _)
  clear hm1 hm2 F1 F2 F3 hb2 hw2
  go_wp2_with fail
  rw [← HU1.out]
  clear r0 r1 g0 g1 HU1
  have E0 := G2.out
  refine Lex.lexQ_normal (fun _ => E0) ?_
  refine Lex.lex_do rfl ?_
  clear E0
  have r0 := G2.out.cell0
  have r1 := G2.out.cell1
  have g0 := G2.out.free 0
  have g1 := G2.out.free 1
  obtain ⟨U2, hU2⟩ : ∃ U2, U2 = (U1.setCell ⟨w.heap.size + 1, 0, none⟩ (.bool p6.1)).setCell ⟨w.heap.size + 1, 1, none⟩ (.slice A6 n6 c6) := ⟨_, rfl⟩
  have HU2 := Lib.hid hU2
  clear hU2
  have K1 := Lib.hid (show Two U2 w.heap.size _ _ _ by rw [HU2.out]; exact G1.out.set01 (by omega))
  have K2 := Lib.hid (show Two U2 (w.heap.size + 1) _ _ _ by rw [HU2.out]; exact G2.out.put _ _)
  have K3 := Lib.hid (show Four U2 (w.heap.size + 1 + 1) _ _ _ _ _ by rw [HU2.out]; exact G3.out.set01 (by omega))
  have L1 := Lib.hid (show IsR U2 _ _ _ by rw [HU2.out]; exact M1.out.set01 G2.out _ _)
  have L2 := Lib.hid (show IsR U2 _ _ _ by rw [HU2.out]; exact M2.out.set01 G2.out _ _)
  have WE := Lib.hid (show Below w.heap.size w U2 by rw [HU2.out]; exact (WW.out.setCell (by dsimp only; omega) _).setCell (by dsimp only; omega) _)
  clear G1 G2 G3 M1 M2 WW
  go_wp2_with fail
  rw [← HU2.out]
  clear r0 r1 g0 g1 HU2
  refine Lex.lexQ_normal (fun h => absurd h (by decide)) ?_
  refine Lex.lex_nil ?_
  have k0 := K1.out.cell0
  have k1 := K1.out.cell1
  have k2 := K2.out.cell0
  have k3 := K2.out.cell1
  have r0 := K3.out.cell0
  have r1 := K3.out.cell1
  have r2 := K3.out.cell2
  have r3 := K3.out.cell3
  have g0 := K3.out.free 0
  have g1 := K3.out.free 1
  have g2 := K3.out.free 2
  have g3 := K3.out.free 3
  go_wp2
  refine bodyPost_ret (v := .agg #[.bool p5.1, .slice A5 n5 c5, .bool p6.1, .slice A6 n6 c6]) (by simp [results, Tryz.results76, go_sem, r0, r1, r2, r3]) rfl ⟨_, rfl, ⟨p5.1, _, p6.1, _, rfl, L1.out.storedQ K3.out, L2.out.storedQ K3.out⟩, ?_⟩
  exact (((WE.out.setCell (by simp; try omega) _).setCell (by simp; try omega) _).setCell (by simp; try omega) _).setCell (by simp; try omega) _

set_option maxRecDepth 100000 in
set_option maxHeartbeats 1600000 in
theorem rmake_neg (p q : Int) (w : World) (hp : I64 p) (hq : I64 q) (hd : q < 0) :
    Calls Tryz.prog 28 #[.int .i64 p, .int .i64 q] w (RetV (lowV (-p) (-q)) w) := by
  have c1 := fun W (_ : Below w.heap.size w W) => rint_any p W hp
  have c2 := fun W (_ : Below w.heap.size w W) => rint_any q W hq
  have c3 : ∀ W (_ : Below w.heap.size w W) u v, IsR W u p 5 → IsR W v q 5 → Calls Tryz.prog 76 #[u, v] W (RetRQ (-p) (-q) 5 W) := fun W _ u v g1 g2 => rratio_neg g1 g2 hd (by omega)
  obtain ⟨fn, fd, fe, hf⟩ := fracV_form ((-p) / (Int.gcd (-p) (-q) : Nat)) ((-q) / (Int.gcd (-p) (-q) : Nat))
  have hres : lowV (-p) (-q) = .tuple #[.agg #[.int .i64 fn, .int .i64 fd], .int .i64 fe] := hf
  have c4 : ∀ W (_ : Below w.heap.size w W) u, IsRQ W u (-p) (-q) 5 → Calls Tryz.prog 16 #[u] W (RetW (.tuple #[.agg #[.int .i64 fn, .int .i64 fd], .int .i64 fe]) W) := fun W _ u g => by
    have := rfrac_any g (by omega) (by omega)
    rw [hres] at this
    exact this.mono fun e w' h => RetW.of h
  rw [hres]
  have e0 : (q == 0) = false := by simp; omega
  clear hp hq hf hres hd
  obtain ⟨W3, hW3⟩ : ∃ W3, W3 = (w.alloc (.cells #[.int .i64 0, .int .i64 0] 28)) := ⟨_, rfl⟩
  have hB : Below w.heap.size w W3 := by rw [hW3]; exact ((Below.refl _ _).alloc (Nat.le_refl _) _)
  have HBW := Lib.hid hB
  have HR := Lib.hid (show Two W3 (w.heap.size) (.int .i64 0) (.int .i64 0) 28 by rw [hW3]; exact (Two.newAt _ _ _ _ _ (by simp)))
  clear hB
  go_enter Tryz.func28, Tryz.ntmps28
  go_upto_region 1 with fail
  rw [← hW3]
  clear hW3
  have k0_0 := HR.out.cell0
  have k0_1 := HR.out.cell1
  have hb0 := Below.refl W3.heap.size W3
  have hw0 := HBW.out
  have cc := c1 W3 hw0
  go_wp2_with fail
  refine cc.mono ?_
  rintro e V1 ⟨v1, rfl, hm1, hn1⟩
  have hb1 := hb0.trans (hn1.mono hb0.size)
  have hw1 := hw0.trans (hn1.mono hw0.size)
  clear cc hb0 hw0 hn1
  clear k0_0 k0_1
  have k0_0 := (HR.out.below hb1 HR.out.lt).cell0
  have k0_1 := (HR.out.below hb1 HR.out.lt).cell1
  have cc := c2 V1 hw1
  go_wp2_with fail
  refine cc.mono ?_
  rintro e V2 ⟨v2, rfl, hm2, hn2⟩
  have hb2 := hb1.trans (hn2.mono hb1.size)
  have hw2 := hw1.trans (hn2.mono hw1.size)
  have hm1 := hm1.below hn2
  clear cc hb1 hw1 hn2
  clear k0_0 k0_1
  have k0_0 := (HR.out.below hb2 HR.out.lt).cell0
  have k0_1 := (HR.out.below hb2 HR.out.lt).cell1
  have cc := c3 V2 hw2 _ _ hm1 hm2
  go_wp2_with fail
  refine cc.mono ?_
  rintro e V3 ⟨v3, rfl, hm3, hn3⟩
  have hb3 := hb2.trans (hn3.mono hb2.size)
  have hw3 := hw2.trans (hn3.mono hw2.size)
  clear hm1 hm2
  clear cc hb2 hw2 hn3
  clear k0_0 k0_1
  have k0_0 := (HR.out.below hb3 HR.out.lt).cell0
  have k0_1 := (HR.out.below hb3 HR.out.lt).cell1
  have cc := c4 V3 hw3 _ hm3
  go_wp2_with fail
  refine cc.mono ?_
  rintro e V4 ⟨v4, rfl, hm4, hn4⟩
  have hb4 := hb3.trans (hn4.mono hb3.size)
  have hw4 := hw3.trans (hn4.mono hw3.size)
  clear hm3
  subst hm4
  clear cc hb3 hw3 hn4
  clear k0_0 k0_1
  have k0_0 := (HR.out.below hb4 HR.out.lt).cell0
  have k0_1 := (HR.out.below hb4 HR.out.lt).cell1
  have HE := Lib.hid hw4
  have g0 := (HR.out.below hb4 HR.out.lt).free 0
  have g1 := (HR.out.below hb4 HR.out.lt).free 1
  clear hb4 hw4
  go_wp2
  refine bodyPost_ret (v := .tuple #[.agg #[.int .i64 fn, .int .i64 fd], .int .i64 fe]) (by simp [results, Tryz.results28, go_sem, k0_0, k0_1]) rfl ⟨rfl, ?_⟩
  exact (HE.out.setCell (by dsimp only; omega) _).setCell (by dsimp only; omega) _

set_option maxRecDepth 100000 in
set_option maxHeartbeats 1600000 in
theorem rmake_zero (p : Int) (w : World) :
    Calls Tryz.prog 28 #[.int .i64 p, .int .i64 0] w (RetV (.tuple #[.agg #[.int .i64 0, .int .i64 0], .int .i64 4]) w) := by
  obtain ⟨W3, hW3⟩ : ∃ W3, W3 = (w.alloc (.cells #[.int .i64 0, .int .i64 0] 28)) := ⟨_, rfl⟩
  have hB : Below w.heap.size w W3 := by rw [hW3]; exact ((Below.refl _ _).alloc (Nat.le_refl _) _)
  have HBW := Lib.hid hB
  have HR := Lib.hid (show Two W3 (w.heap.size) (.int .i64 0) (.int .i64 0) 28 by rw [hW3]; exact (Two.newAt _ _ _ _ _ (by simp)))
  clear hB
  go_enter Tryz.func28, Tryz.ntmps28
  go_upto_region 1 with fail
  rw [← hW3]
  clear hW3
  have k0 := HR.out.cell0
  have k1 := HR.out.cell1
  have g0 := HR.out.free 0
  have g1 := HR.out.free 1
  go_wp2
  refine bodyPost_ret (v := .tuple #[.agg #[.int .i64 0, .int .i64 0], .int .i64 4]) (by simp [results, Tryz.results28, go_sem, k0, k1]) rfl ⟨rfl, ?_⟩
  exact (HBW.out.setCell (by dsimp only; omega) _).setCell (by dsimp only; omega) _

/-- Make of any two integers. -/
theorem rmake_any (p q : Int) (w : World) (hp : I64 p) (hq : I64 q) :
    Calls Tryz.prog 28 #[.int .i64 p, .int .i64 q] w (RetV (if q = 0 then .tuple #[.agg #[.int .i64 0, .int .i64 0], .int .i64 4] else if q < 0 then lowV (-p) (-q) else lowV p q) w) := by
  by_cases h0 : q = 0
  · subst h0
    exact rmake_zero p w
  · rw [if_neg h0]
    by_cases h1 : q < 0
    · rw [if_pos h1]; exact rmake_neg p q w hp hq h1
    · rw [if_neg h1]; exact rmake_pos p q w hp hq (by omega)

end Go.Proofs.YtklngjjokbhfpaaGreat
