/- The walk of GearField (printed by gengc.py). -/
import Derived.Test.YtklngjjokbhfpaaGreatGa
import Derived.Test.YtklngjjokbhfpaaGreatPkDl
import Derived.Test.YtklngjjokbhfpaaGreatLz
import Derived.Test.YtklngjjokbhfpaaGreatPkEd
namespace Go.Proofs.YtklngjjokbhfpaaGreat
open Go.RowKit

theorem fok_of {x : Int × Int} (h1 : 1 ≤ x.2) (h2 : Nat.gcd x.1.natAbs x.2.natAbs = 1) (h3 : x.1.natAbs ≤ 4611686018427387904) (h4 : x.2.natAbs ≤ 4611686018427387904) : FOk x := ⟨h1, by omega, h3, h2⟩
theorem ladd_w {a b c d n e : Int} (h1 : FOk (a, b)) (h2 : FOk (c, d)) (hz : addP (a, b) (c, d) = (n, e)) (hf : FOk (n, e)) {w : World} : ∀ W (_ : Below w.heap.size w W), Calls Tryz.prog 32 #[.agg #[.int .i64 a, .int .i64 b], .agg #[.int .i64 c, .int .i64 d]] W (RetW (.agg #[.int .i64 n, .int .i64 e]) W) := fun W _ => by
  refine (ladd_ok W h1 h2 ?_).mono fun e w' h => RetW.of h
  have hz : lowP (a * d + c * b) (b * d) = (n, e) := hz
  rw [lowV_eq, hz, fracV_in hf.2.2.1 (by have := hf.1; have := hf.2.1; simp at *; omega)]
theorem lmul_w {a b c d n e : Int} (h1 : FOk (a, b)) (h2 : FOk (c, d)) (hz : mulP (a, b) (c, d) = (n, e)) (hf : FOk (n, e)) {w : World} : ∀ W (_ : Below w.heap.size w W), Calls Tryz.prog 33 #[.agg #[.int .i64 a, .int .i64 b], .agg #[.int .i64 c, .int .i64 d]] W (RetW (.agg #[.int .i64 n, .int .i64 e]) W) := fun W _ => by
  refine (lmul_ok W h1 h2 ?_).mono fun e w' h => RetW.of h
  have hz : lowP (a * c) (b * d) = (n, e) := hz
  rw [lowV_eq, hz, fracV_in hf.2.2.1 (by have := hf.1; have := hf.2.1; simp at *; omega)]
theorem gsub_w {a b c d n e : Int} (h1 : FOk (a, b)) (h2 : FOk (c, d)) (hz : subP (a, b) (c, d) = (n, e)) (hf : FOk (n, e)) {w : World} : ∀ W (_ : Below w.heap.size w W), Calls Tryz.prog 34 #[.agg #[.int .i64 a, .int .i64 b], .agg #[.int .i64 c, .int .i64 d]] W (RetW (.tuple #[.agg #[.int .i64 n, .int .i64 e], .int .i64 0]) W) := fun W _ => by
  have := gsub_ok a b c d W h1 h2
  have hz : lowP (a * d - c * b) (b * d) = (n, e) := hz
  rw [lowV_eq, hz, fracV_in hf.2.2.1 (by have := hf.1; have := hf.2.1; simp at *; omega)] at this
  exact this.mono fun e w' h => RetW.of h
theorem gdiv_w {a b c d n e : Int} (h1 : FOk (a, b)) (h2 : FOk (c, d)) (hc : c ≠ 0) (hz : divP (a, b) (c, d) = (n, e)) (hf : FOk (n, e)) {w : World} : ∀ W (_ : Below w.heap.size w W), Calls Tryz.prog 35 #[.agg #[.int .i64 a, .int .i64 b], .agg #[.int .i64 c, .int .i64 d]] W (RetW (.tuple #[.agg #[.int .i64 n, .int .i64 e], .int .i64 0]) W) := fun W _ => by
  have hb : (fracV n e) = .tuple #[.agg #[.int .i64 n, .int .i64 e], .int .i64 0] := fracV_in hf.2.2.1 (by have := hf.1; have := hf.2.1; simp at *; omega)
  unfold divP at hz
  dsimp only at hz
  by_cases h : c < 0
  · rw [if_pos h] at hz
    have := gdiv_neg a b c d W h1 h2 h
    rw [lowV_eq, hz, hb] at this
    exact this.mono fun e w' h => RetW.of h
  · rw [if_neg h] at hz
    have := gdiv_pos a b c d W h1 h2 (by omega)
    rw [lowV_eq, hz, hb] at this
    exact this.mono fun e w' h => RetW.of h
theorem tame_f {w : World} (p q : Int) : ∀ W (_ : Below w.heap.size w W), Calls Tryz.prog 31 #[.agg #[.int .i64 p, .int .i64 q], .int .i64 50000] W (RetTame 50000 W) := fun W _ => tame_any p q 50000 W (by omega) (by omega)

/-- The plain law: three small fractions, their sums and products. -/
structure Field (A B C u v x y g h l m : Int × Int) : Prop where
  hA : FOk A
  hB : FOk B
  hC : FOk C
  hu : FOk u
  hv : FOk v
  hx : FOk x
  hy : FOk y
  hg : FOk g
  hh : FOk h
  hl : FOk l
  hm : FOk m
  ab : addP A B = u
  ba : addP B A = u
  mab : mulP A B = v
  mba : mulP B A = v
  uc : addP u C = x
  bc : addP B C = y
  ay : addP A y = x
  vc : mulP v C = g
  mbc : mulP B C = h
  ah : mulP A h = g
  may : mulP A y = l
  mac : mulP A C = m
  vm : addP v m = l
  sub : subP u B = A
  div : B.1 ≠ 0 → divP v B = A
theorem field {A B C : Int × Int} (hA : FOk A) (hB : FOk B) (hC : FOk C) (a1 : A.1.natAbs ≤ 50000) (a2 : A.2 ≤ 50000) (b1 : B.1.natAbs ≤ 50000) (b2 : B.2 ≤ 50000) (c1 : C.1.natAbs ≤ 50000) (c2 : C.2 ≤ 50000) :
    ∃ u v x y g h l m, Field A B C u v x y g h l m := by
  have pa := hA.1
  have pb := hB.1
  have pc := hC.1
  obtain ⟨u1, u2, u3, u4⟩ := addP_bound (M := 50000) (N := 50000) (K := 50000) (L := 50000) pa pb a1 (by omega) b1 (by omega)
  obtain ⟨v1, v2, v3, v4⟩ := mulP_bound (M := 50000) (N := 50000) (K := 50000) (L := 50000) pa pb a1 (by omega) b1 (by omega)
  obtain ⟨y1, y2, y3, y4⟩ := addP_bound (M := 50000) (N := 50000) (K := 50000) (L := 50000) pb pc b1 (by omega) c1 (by omega)
  obtain ⟨h1, h2, h3, h4⟩ := mulP_bound (M := 50000) (N := 50000) (K := 50000) (L := 50000) pb pc b1 (by omega) c1 (by omega)
  obtain ⟨m1, m2, m3, m4⟩ := mulP_bound (M := 50000) (N := 50000) (K := 50000) (L := 50000) pa pc a1 (by omega) c1 (by omega)
  obtain ⟨x1, x2, x3, x4⟩ := addP_bound (M := 5000000000) (N := 2500000000) (K := 50000) (L := 50000) u1 pc (by omega) (by omega) c1 (by omega)
  obtain ⟨g1, g2, g3, g4⟩ := mulP_bound (M := 2500000000) (N := 2500000000) (K := 50000) (L := 50000) v1 pc (by omega) (by omega) c1 (by omega)
  obtain ⟨l1, l2, l3, l4⟩ := mulP_bound (M := 50000) (N := 50000) (K := 5000000000) (L := 2500000000) pa y1 a1 (by omega) (by omega) (by omega)
  exact ⟨_, _, _, _, _, _, _, _, hA, hB, hC, fok_of u1 u2 (by omega) (by omega), fok_of v1 v2 (by omega) (by omega), fok_of x1 x2 (by omega) (by omega), fok_of y1 y2 (by omega) (by omega), fok_of g1 g2 (by omega) (by omega), fok_of h1 h2 (by omega) (by omega), fok_of l1 l2 (by omega) (by omega), fok_of m1 m2 (by omega) (by omega),
    rfl, (addP_comm _ _), rfl, (mulP_comm _ _), rfl, rfl, (addP_assoc (by omega) (by omega) (by omega)).symm, rfl, rfl, (mulP_assoc (by omega) (by omega) (by omega)).symm, rfl, rfl, (mulP_addP (by omega) (by omega) (by omega)).symm, subP_addP pa (by omega) hA.2.2.2, fun hn => divP_mulP pa (by omega) hn hA.2.2.2⟩

set_option maxRecDepth 100000 in
set_option maxHeartbeats 12800000 in
theorem field_all (p q r s a b : Int) (w : World) :
    Calls Tryz.prog 6 #[.agg #[.int .i64 p, .int .i64 q], .agg #[.int .i64 r, .int .i64 s], .agg #[.int .i64 a, .int .i64 b]] w (RetV (.bool true) w) := by
  obtain ⟨W3, hW3⟩ : ∃ W3, W3 = (((w.alloc (.cells #[.int .i64 p, .int .i64 q] 28)).alloc (.cells #[.int .i64 r, .int .i64 s] 28)).alloc (.cells #[.int .i64 a, .int .i64 b] 28)) := ⟨_, rfl⟩
  have hB : Below w.heap.size w W3 := by rw [hW3]; exact ((((Below.refl _ _).alloc (Nat.le_refl _) _).alloc (by simp; try omega) _).alloc (by simp; try omega) _)
  have HBW := Lib.hid hB
  have HF := Lib.hid (show Two W3 (w.heap.size) (.int .i64 p) (.int .i64 q) 28 by rw [hW3]; exact (((((Two.newAt _ _ _ _ _ (by simp))).alloc _)).alloc _))
  have HG := Lib.hid (show Two W3 (w.heap.size + 1) (.int .i64 r) (.int .i64 s) 28 by rw [hW3]; exact (((Two.newAt _ _ _ _ _ (by simp))).alloc _))
  have HH := Lib.hid (show Two W3 (w.heap.size + 1 + 1) (.int .i64 a) (.int .i64 b) 28 by rw [hW3]; exact (Two.newAt _ _ _ _ _ (by simp)))
  clear hB
  go_enter Tryz.func6, Tryz.ntmps6
  go_upto_region 1 with fail
  rw [← hW3]
  clear hW3
  refine Lex.wp_region_mix (fun w' => Two w' w.heap.size (.int .i64 p) (.int .i64 q) 28 ∧ Two w' (w.heap.size + 1) (.int .i64 r) (.int .i64 s) 28 ∧ Two w' (w.heap.size + 1 + 1) (.int .i64 a) (.int .i64 b) 28)
    [(0, 14), (1, 15), (2, 16), (3, 17), (4, 18), (5, 19), (6, 7), (7, 8), (8, 9)] (fun j => j == 0 || j == 2 || j == 4) (fun j => j == 6 || j == 7 || j == 8) [(9, false), (10, false), (11, false)]
    (fun i v w' => match i with | 0 => v = .agg #[.int .i64 p, .int .i64 q] | 1 => ∃ n d : Int, v = .agg #[.int .i64 n, .int .i64 d] ∧ FOk (n, d) ∧ n.natAbs ≤ 50000 ∧ d ≤ 50000 | 2 => v = .agg #[.int .i64 r, .int .i64 s] | 3 => ∃ n d : Int, v = .agg #[.int .i64 n, .int .i64 d] ∧ FOk (n, d) ∧ n.natAbs ≤ 50000 ∧ d ≤ 50000 | 4 => v = .agg #[.int .i64 a, .int .i64 b] | 5 => ∃ n d : Int, v = .agg #[.int .i64 n, .int .i64 d] ∧ FOk (n, d) ∧ n.natAbs ≤ 50000 ∧ d ≤ 50000 | 6 => ∃ B, v = .pointer (some ⟨B, 0, none⟩) ∧ W3.heap.size ≤ B ∧ Two w' B (.int .i64 0) (.int .i64 0) 28 | 7 => ∃ B, v = .pointer (some ⟨B, 0, none⟩) ∧ W3.heap.size ≤ B ∧ Two w' B (.int .i64 0) (.int .i64 0) 28 | 8 => ∃ B, v = .pointer (some ⟨B, 0, none⟩) ∧ W3.heap.size ≤ B ∧ Two w' B (.int .i64 0) (.int .i64 0) 28 | _ => False)
    (by kernel_rfl) (by kernel_rfl) (by kernel_rfl) ⟨HF.out, HG.out, HH.out⟩ (fun w1 w2 hS hb => ⟨hS.1.below hb hS.1.lt, hS.2.1.below hb hS.2.1.lt, hS.2.2.below hb hS.2.2.lt⟩) ?_ ?_ ?_
  · refine Lex.all_cons ?_ (Lex.all_cons ?_ (Lex.all_cons ?_ (Lex.all_cons ?_ (Lex.all_cons ?_ (Lex.all_cons ?_ (Lex.all_cons ?_ (Lex.all_cons ?_ (Lex.all_cons ?_ (Lex.all_nil)))))))))
    · exact fun v w1 w2 h _ => h
    · exact fun v w1 w2 h _ => h
    · exact fun v w1 w2 h _ => h
    · exact fun v w1 w2 h _ => h
    · exact fun v w1 w2 h _ => h
    · exact fun v w1 w2 h _ => h
    · exact fun v w1 w2 ⟨B, hv, hl, hT⟩ hb => ⟨B, hv, hl, hT.below hb hT.lt⟩
    · exact fun v w1 w2 ⟨B, hv, hl, hT⟩ hb => ⟨B, hv, hl, hT.below hb hT.lt⟩
    · exact fun v w1 w2 ⟨B, hv, hl, hT⟩ hb => ⟨B, hv, hl, hT.below hb hT.lt⟩
  · refine Lex.all_cons ?_ (Lex.all_cons ?_ (Lex.all_cons ?_ (Lex.all_cons ?_ (Lex.all_cons ?_ (Lex.all_cons ?_ (Lex.all_cons ?_ (Lex.all_cons ?_ (Lex.all_cons ?_ (Lex.all_nil)))))))))
    · refine Lex.ob_eager rfl rfl (fun σ w1 hS hB hg => ⟨.agg #[.int .i64 p, .int .i64 q], rfl, fun w2 hS => ?_, rfl⟩)
      clear hg
      simp only [Lex.full, Act.put, List.setIfInBounds_toArray, List.set_cons_zero, List.set_cons_succ]
      have f0_0 := hS.1.cell0
      have f0_1 := hS.1.cell1
      have f1_0 := hS.2.1.cell0
      have f1_1 := hS.2.1.cell1
      have f2_0 := hS.2.2.cell0
      have f2_1 := hS.2.2.cell1
      clear hS
      go_simp
      all_goals with_reducible rfl
    · refine Lex.ob_step rfl rfl rfl (fun σ w1 hS hB hg K hK => ?_)
      have HK := Lib.hid hK
      clear hK
      have g0 : (σ 0) = .agg #[.int .i64 p, .int .i64 q] := hg (0, 14) (by simp) (by kernel_rfl)
      clear hg
      simp only [Lex.full, Act.put, List.setIfInBounds_toArray, List.set_cons_zero, List.set_cons_succ]
      simp only [g0]
      have hw1 : Below w.heap.size w w1 := HBW.out.drew.trans (hB.mono HBW.out.size)
      have cc := tame_f p q w1 hw1
      go_wp2_with fail
      refine cc.mono ?_
      rintro e w2 ⟨n, d, rfl, h1, h2, h3, hn⟩
      clear cc
      go_wp2_with fail
      exact HK.out _ _ ⟨rfl, hn, ⟨n, d, rfl, h1, h2, h3⟩, fun h => nomatch h⟩
    · refine Lex.ob_eager rfl rfl (fun σ w1 hS hB hg => ⟨.agg #[.int .i64 r, .int .i64 s], rfl, fun w2 hS => ?_, rfl⟩)
      clear hg
      simp only [Lex.full, Act.put, List.setIfInBounds_toArray, List.set_cons_zero, List.set_cons_succ]
      have f0_0 := hS.1.cell0
      have f0_1 := hS.1.cell1
      have f1_0 := hS.2.1.cell0
      have f1_1 := hS.2.1.cell1
      have f2_0 := hS.2.2.cell0
      have f2_1 := hS.2.2.cell1
      clear hS
      go_simp
      all_goals with_reducible rfl
    · refine Lex.ob_step rfl rfl rfl (fun σ w1 hS hB hg K hK => ?_)
      have HK := Lib.hid hK
      clear hK
      have g2 : (σ 2) = .agg #[.int .i64 r, .int .i64 s] := hg (2, 16) (by simp) (by kernel_rfl)
      clear hg
      simp only [Lex.full, Act.put, List.setIfInBounds_toArray, List.set_cons_zero, List.set_cons_succ]
      simp only [g2]
      have hw1 : Below w.heap.size w w1 := HBW.out.drew.trans (hB.mono HBW.out.size)
      have cc := tame_f r s w1 hw1
      go_wp2_with fail
      refine cc.mono ?_
      rintro e w2 ⟨n, d, rfl, h1, h2, h3, hn⟩
      clear cc
      go_wp2_with fail
      exact HK.out _ _ ⟨rfl, hn, ⟨n, d, rfl, h1, h2, h3⟩, fun h => nomatch h⟩
    · refine Lex.ob_eager rfl rfl (fun σ w1 hS hB hg => ⟨.agg #[.int .i64 a, .int .i64 b], rfl, fun w2 hS => ?_, rfl⟩)
      clear hg
      simp only [Lex.full, Act.put, List.setIfInBounds_toArray, List.set_cons_zero, List.set_cons_succ]
      have f0_0 := hS.1.cell0
      have f0_1 := hS.1.cell1
      have f1_0 := hS.2.1.cell0
      have f1_1 := hS.2.1.cell1
      have f2_0 := hS.2.2.cell0
      have f2_1 := hS.2.2.cell1
      clear hS
      go_simp
      all_goals with_reducible rfl
    · refine Lex.ob_step rfl rfl rfl (fun σ w1 hS hB hg K hK => ?_)
      have HK := Lib.hid hK
      clear hK
      have g4 : (σ 4) = .agg #[.int .i64 a, .int .i64 b] := hg (4, 18) (by simp) (by kernel_rfl)
      clear hg
      simp only [Lex.full, Act.put, List.setIfInBounds_toArray, List.set_cons_zero, List.set_cons_succ]
      simp only [g4]
      have hw1 : Below w.heap.size w w1 := HBW.out.drew.trans (hB.mono HBW.out.size)
      have cc := tame_f a b w1 hw1
      go_wp2_with fail
      refine cc.mono ?_
      rintro e w2 ⟨n, d, rfl, h1, h2, h3, hn⟩
      clear cc
      go_wp2_with fail
      exact HK.out _ _ ⟨rfl, hn, ⟨n, d, rfl, h1, h2, h3⟩, fun h => nomatch h⟩
    · refine Lex.ob_step rfl rfl rfl (fun σ w1 hS hB hg K hK => ?_)
      have HK := Lib.hid hK
      clear hK
      clear hg
      simp only [Lex.full, Act.put, List.setIfInBounds_toArray, List.set_cons_zero, List.set_cons_succ]
      go_wp2_with fail
      refine HK.out _ _ ⟨rfl, (Below.refl _ _).alloc (Nat.le_refl _) _, ⟨w1.heap.size, rfl, show W3.heap.size ≤ _ from hB.size, Two.newAt _ _ _ _ _ rfl⟩, fun _ => ?_⟩
      refine Lex.all_cons ?_ (Lex.all_cons ?_ (Lex.all_cons ?_ (Lex.all_cons ?_ (Lex.all_cons ?_ (Lex.all_cons ?_ (Lex.all_cons ?_ (Lex.all_cons ?_ (Lex.all_cons ?_ (Lex.all_nil)))))))))
      · intro u h; cases h
      · intro u h; cases h
      · intro u h; cases h
      · intro u h; cases h
      · intro u h; cases h
      · intro u h; cases h
      · rintro u _ ⟨B, rfl, _, hT⟩ he; have := hT.lt; have he : Value.pointer (some ⟨B, 0, none⟩) = .pointer (some ⟨w1.heap.size, 0, none⟩) := he; injection he with he; injection he with he; injection he with he; omega
      · rintro u _ ⟨B, rfl, _, hT⟩ he; have := hT.lt; have he : Value.pointer (some ⟨B, 0, none⟩) = .pointer (some ⟨w1.heap.size, 0, none⟩) := he; injection he with he; injection he with he; injection he with he; omega
      · rintro u _ ⟨B, rfl, _, hT⟩ he; have := hT.lt; have he : Value.pointer (some ⟨B, 0, none⟩) = .pointer (some ⟨w1.heap.size, 0, none⟩) := he; injection he with he; injection he with he; injection he with he; omega
    · refine Lex.ob_step rfl rfl rfl (fun σ w1 hS hB hg K hK => ?_)
      have HK := Lib.hid hK
      clear hK
      clear hg
      simp only [Lex.full, Act.put, List.setIfInBounds_toArray, List.set_cons_zero, List.set_cons_succ]
      go_wp2_with fail
      refine HK.out _ _ ⟨rfl, (Below.refl _ _).alloc (Nat.le_refl _) _, ⟨w1.heap.size, rfl, show W3.heap.size ≤ _ from hB.size, Two.newAt _ _ _ _ _ rfl⟩, fun _ => ?_⟩
      refine Lex.all_cons ?_ (Lex.all_cons ?_ (Lex.all_cons ?_ (Lex.all_cons ?_ (Lex.all_cons ?_ (Lex.all_cons ?_ (Lex.all_cons ?_ (Lex.all_cons ?_ (Lex.all_cons ?_ (Lex.all_nil)))))))))
      · intro u h; cases h
      · intro u h; cases h
      · intro u h; cases h
      · intro u h; cases h
      · intro u h; cases h
      · intro u h; cases h
      · rintro u _ ⟨B, rfl, _, hT⟩ he; have := hT.lt; have he : Value.pointer (some ⟨B, 0, none⟩) = .pointer (some ⟨w1.heap.size, 0, none⟩) := he; injection he with he; injection he with he; injection he with he; omega
      · rintro u _ ⟨B, rfl, _, hT⟩ he; have := hT.lt; have he : Value.pointer (some ⟨B, 0, none⟩) = .pointer (some ⟨w1.heap.size, 0, none⟩) := he; injection he with he; injection he with he; injection he with he; omega
      · rintro u _ ⟨B, rfl, _, hT⟩ he; have := hT.lt; have he : Value.pointer (some ⟨B, 0, none⟩) = .pointer (some ⟨w1.heap.size, 0, none⟩) := he; injection he with he; injection he with he; injection he with he; omega
    · refine Lex.ob_step rfl rfl rfl (fun σ w1 hS hB hg K hK => ?_)
      have HK := Lib.hid hK
      clear hK
      clear hg
      simp only [Lex.full, Act.put, List.setIfInBounds_toArray, List.set_cons_zero, List.set_cons_succ]
      go_wp2_with fail
      refine HK.out _ _ ⟨rfl, (Below.refl _ _).alloc (Nat.le_refl _) _, ⟨w1.heap.size, rfl, show W3.heap.size ≤ _ from hB.size, Two.newAt _ _ _ _ _ rfl⟩, fun _ => ?_⟩
      refine Lex.all_cons ?_ (Lex.all_cons ?_ (Lex.all_cons ?_ (Lex.all_cons ?_ (Lex.all_cons ?_ (Lex.all_cons ?_ (Lex.all_cons ?_ (Lex.all_cons ?_ (Lex.all_cons ?_ (Lex.all_nil)))))))))
      · intro u h; cases h
      · intro u h; cases h
      · intro u h; cases h
      · intro u h; cases h
      · intro u h; cases h
      · intro u h; cases h
      · rintro u _ ⟨B, rfl, _, hT⟩ he; have := hT.lt; have he : Value.pointer (some ⟨B, 0, none⟩) = .pointer (some ⟨w1.heap.size, 0, none⟩) := he; injection he with he; injection he with he; injection he with he; omega
      · rintro u _ ⟨B, rfl, _, hT⟩ he; have := hT.lt; have he : Value.pointer (some ⟨B, 0, none⟩) = .pointer (some ⟨w1.heap.size, 0, none⟩) := he; injection he with he; injection he with he; injection he with he; omega
      · rintro u _ ⟨B, rfl, _, hT⟩ he; have := hT.lt; have he : Value.pointer (some ⟨B, 0, none⟩) = .pointer (some ⟨w1.heap.size, 0, none⟩) := he; injection he with he; injection he with he; injection he with he; omega
  · intro σ V1_ hS hB hg hd
    have e0 : (σ 0) = .agg #[.int .i64 p, .int .i64 q] := hg (0, 14) (by simp)
    have e1 : ∃ n d : Int, (σ 1) = .agg #[.int .i64 n, .int .i64 d] ∧ FOk (n, d) ∧ n.natAbs ≤ 50000 ∧ d ≤ 50000 := hg (1, 15) (by simp)
    have e2 : (σ 2) = .agg #[.int .i64 r, .int .i64 s] := hg (2, 16) (by simp)
    have e3 : ∃ n d : Int, (σ 3) = .agg #[.int .i64 n, .int .i64 d] ∧ FOk (n, d) ∧ n.natAbs ≤ 50000 ∧ d ≤ 50000 := hg (3, 17) (by simp)
    have e4 : (σ 4) = .agg #[.int .i64 a, .int .i64 b] := hg (4, 18) (by simp)
    have e5 : ∃ n d : Int, (σ 5) = .agg #[.int .i64 n, .int .i64 d] ∧ FOk (n, d) ∧ n.natAbs ≤ 50000 ∧ d ≤ 50000 := hg (5, 19) (by simp)
    have e6 : ∃ B, (σ 6) = .pointer (some ⟨B, 0, none⟩) ∧ W3.heap.size ≤ B ∧ Two V1_ B (.int .i64 0) (.int .i64 0) 28 := hg (6, 7) (by simp)
    have e7 : ∃ B, (σ 7) = .pointer (some ⟨B, 0, none⟩) ∧ W3.heap.size ≤ B ∧ Two V1_ B (.int .i64 0) (.int .i64 0) 28 := hg (7, 8) (by simp)
    have e8 : ∃ B, (σ 8) = .pointer (some ⟨B, 0, none⟩) ∧ W3.heap.size ≤ B ∧ Two V1_ B (.int .i64 0) (.int .i64 0) 28 := hg (8, 9) (by simp)
    have n1_6_7 : σ 6 ≠ σ 7 := hd (6, 7) (by simp) (7, 8) (by simp) (by decide) rfl rfl
    have n1_6_8 : σ 6 ≠ σ 8 := hd (6, 7) (by simp) (8, 9) (by simp) (by decide) rfl rfl
    have n1_7_8 : σ 7 ≠ σ 8 := hd (7, 8) (by simp) (8, 9) (by simp) (by decide) rfl rfl
    clear hg hd
    simp only [Lex.full, Act.put, List.setIfInBounds_toArray, List.set_cons_zero, List.set_cons_succ]
    generalize σ 0 = s1_0 at *
    generalize σ 1 = s1_1 at *
    generalize σ 2 = s1_2 at *
    generalize σ 3 = s1_3 at *
    generalize σ 4 = s1_4 at *
    generalize σ 5 = s1_5 at *
    generalize σ 6 = s1_6 at *
    generalize σ 7 = s1_7 at *
    generalize σ 8 = s1_8 at *
    clear σ
    subst e0
    obtain ⟨an, ad, rfl, oka, a1, a2⟩ := e1
    subst e2
    obtain ⟨bn, bd, rfl, okb, b1, b2⟩ := e3
    subst e4
    obtain ⟨cn, cd, rfl, okc, c1, c2⟩ := e5
    obtain ⟨B1_6, rfl, l1_6, T6⟩ := e6
    have HT1_6 := Lib.hid T6
    clear T6
    obtain ⟨B1_7, rfl, l1_7, T7⟩ := e7
    have HT1_7 := Lib.hid T7
    clear T7
    obtain ⟨B1_8, rfl, l1_8, T8⟩ := e8
    have HT1_8 := Lib.hid T8
    clear T8
    replace n1_6_7 : B1_6 ≠ B1_7 := fun e => n1_6_7 (by rw [e])
    replace n1_6_8 : B1_6 ≠ B1_8 := fun e => n1_6_8 (by rw [e])
    replace n1_7_8 : B1_7 ≠ B1_8 := fun e => n1_7_8 (by rw [e])
    have HBm := Lib.hid (show Below w.heap.size w V1_ from HBW.out.drew.trans (hB.mono HBW.out.size))
    have HBb := Lib.hid (show Below W3.heap.size W3 V1_ from ⟨hB.os, hB.tape, hB.output, hB.size, hB.block⟩)
    have HSm := Lib.hid hS
    clear hB hS
    have l1_p := HF.out.lt
    have G1_p := Lib.hid HSm.out.1
    have l1_r := HG.out.lt
    have G1_r := Lib.hid HSm.out.2.1
    have l1_a := HH.out.lt
    have G1_a := Lib.hid HSm.out.2.2
    have lw1 := HBW.out.size
    clear HSm HBb HF HG HH HBW
    refine Lex.lex_do rfl ?_
    have r0 := HT1_6.out.cell0
    have g0 := HT1_6.out.free 0
    have r1 := HT1_6.out.cell1
    have g1 := HT1_6.out.free 1
    obtain ⟨V1_s1, hV1⟩ : ∃ V1_s1, V1_s1 = ((V1_.setCell ⟨B1_6, 0, none⟩ (.int .i64 an)).setCell ⟨B1_6, 1, none⟩ (.int .i64 ad)) := ⟨_, rfl⟩
    have HV1 := Lib.hid hV1
    clear hV1
    go_wp2_with fail
    rw [← HV1.out]
    clear r0 g0 r1 g1
    have G1_ps := Lib.hid (show Two V1_s1 w.heap.size (.int .i64 p) (.int .i64 q) 28 by rw [HV1.out]; exact ((G1_p.out.setOther ⟨B1_6, 0, none⟩ _ (by dsimp only; omega)).setOther ⟨B1_6, 1, none⟩ _ (by dsimp only; omega)))
    have G1_rs := Lib.hid (show Two V1_s1 (w.heap.size + 1) (.int .i64 r) (.int .i64 s) 28 by rw [HV1.out]; exact ((G1_r.out.setOther ⟨B1_6, 0, none⟩ _ (by dsimp only; omega)).setOther ⟨B1_6, 1, none⟩ _ (by dsimp only; omega)))
    have G1_as := Lib.hid (show Two V1_s1 (w.heap.size + 1 + 1) (.int .i64 a) (.int .i64 b) 28 by rw [HV1.out]; exact ((G1_a.out.setOther ⟨B1_6, 0, none⟩ _ (by dsimp only; omega)).setOther ⟨B1_6, 1, none⟩ _ (by dsimp only; omega)))
    replace HT1_7 := Lib.hid (show Two V1_s1 _ _ _ _ by rw [HV1.out]; exact ((HT1_7.out.setOther ⟨B1_6, 0, none⟩ _ (by dsimp only; omega)).setOther ⟨B1_6, 1, none⟩ _ (by dsimp only; omega)))
    replace HT1_8 := Lib.hid (show Two V1_s1 _ _ _ _ by rw [HV1.out]; exact ((HT1_8.out.setOther ⟨B1_6, 0, none⟩ _ (by dsimp only; omega)).setOther ⟨B1_6, 1, none⟩ _ (by dsimp only; omega)))
    have G1_A := Lib.hid (show Two V1_s1 B1_6 (.int .i64 an) (.int .i64 ad) 28 by rw [HV1.out]; exact (HT1_6.out.set0 _).set1 _)
    have HB1_1 := Lib.hid (show Below w.heap.size w V1_s1 by rw [HV1.out]; exact ((HBm.out.setCell (by dsimp only; omega) _).setCell (by dsimp only; omega) _))
    clear HV1 HT1_6 HBm G1_p G1_r G1_a
    refine Lex.lexQ_normal (fun _ => ⟨G1_ps.out, G1_rs.out, G1_as.out⟩) ?_
    refine Lex.lex_do rfl ?_
    have r0 := HT1_7.out.cell0
    have g0 := HT1_7.out.free 0
    have r1 := HT1_7.out.cell1
    have g1 := HT1_7.out.free 1
    obtain ⟨V1_s2, hV1⟩ : ∃ V1_s2, V1_s2 = ((V1_s1.setCell ⟨B1_7, 0, none⟩ (.int .i64 bn)).setCell ⟨B1_7, 1, none⟩ (.int .i64 bd)) := ⟨_, rfl⟩
    have HV1 := Lib.hid hV1
    clear hV1
    go_wp2_with fail
    rw [← HV1.out]
    clear r0 g0 r1 g1
    have G1_pss := Lib.hid (show Two V1_s2 w.heap.size (.int .i64 p) (.int .i64 q) 28 by rw [HV1.out]; exact ((G1_ps.out.setOther ⟨B1_7, 0, none⟩ _ (by dsimp only; omega)).setOther ⟨B1_7, 1, none⟩ _ (by dsimp only; omega)))
    have G1_rss := Lib.hid (show Two V1_s2 (w.heap.size + 1) (.int .i64 r) (.int .i64 s) 28 by rw [HV1.out]; exact ((G1_rs.out.setOther ⟨B1_7, 0, none⟩ _ (by dsimp only; omega)).setOther ⟨B1_7, 1, none⟩ _ (by dsimp only; omega)))
    have G1_ass := Lib.hid (show Two V1_s2 (w.heap.size + 1 + 1) (.int .i64 a) (.int .i64 b) 28 by rw [HV1.out]; exact ((G1_as.out.setOther ⟨B1_7, 0, none⟩ _ (by dsimp only; omega)).setOther ⟨B1_7, 1, none⟩ _ (by dsimp only; omega)))
    have G1_As := Lib.hid (show Two V1_s2 B1_6 (.int .i64 an) (.int .i64 ad) 28 by rw [HV1.out]; exact ((G1_A.out.setOther ⟨B1_7, 0, none⟩ _ (by dsimp only; omega)).setOther ⟨B1_7, 1, none⟩ _ (by dsimp only; omega)))
    replace HT1_8 := Lib.hid (show Two V1_s2 _ _ _ _ by rw [HV1.out]; exact ((HT1_8.out.setOther ⟨B1_7, 0, none⟩ _ (by dsimp only; omega)).setOther ⟨B1_7, 1, none⟩ _ (by dsimp only; omega)))
    have G1_B := Lib.hid (show Two V1_s2 B1_7 (.int .i64 bn) (.int .i64 bd) 28 by rw [HV1.out]; exact (HT1_7.out.set0 _).set1 _)
    have HB1_2 := Lib.hid (show Below w.heap.size w V1_s2 by rw [HV1.out]; exact ((HB1_1.out.setCell (by dsimp only; omega) _).setCell (by dsimp only; omega) _))
    clear HV1 HT1_7 HB1_1 G1_ps G1_rs G1_as G1_A
    refine Lex.lexQ_normal (fun _ => ⟨G1_pss.out, G1_rss.out, G1_ass.out⟩) ?_
    refine Lex.lex_do rfl ?_
    have r0 := HT1_8.out.cell0
    have g0 := HT1_8.out.free 0
    have r1 := HT1_8.out.cell1
    have g1 := HT1_8.out.free 1
    obtain ⟨V1_s3, hV1⟩ : ∃ V1_s3, V1_s3 = ((V1_s2.setCell ⟨B1_8, 0, none⟩ (.int .i64 cn)).setCell ⟨B1_8, 1, none⟩ (.int .i64 cd)) := ⟨_, rfl⟩
    have HV1 := Lib.hid hV1
    clear hV1
    go_wp2_with fail
    rw [← HV1.out]
    clear r0 g0 r1 g1
    have G1_psss := Lib.hid (show Two V1_s3 w.heap.size (.int .i64 p) (.int .i64 q) 28 by rw [HV1.out]; exact ((G1_pss.out.setOther ⟨B1_8, 0, none⟩ _ (by dsimp only; omega)).setOther ⟨B1_8, 1, none⟩ _ (by dsimp only; omega)))
    have G1_rsss := Lib.hid (show Two V1_s3 (w.heap.size + 1) (.int .i64 r) (.int .i64 s) 28 by rw [HV1.out]; exact ((G1_rss.out.setOther ⟨B1_8, 0, none⟩ _ (by dsimp only; omega)).setOther ⟨B1_8, 1, none⟩ _ (by dsimp only; omega)))
    have G1_asss := Lib.hid (show Two V1_s3 (w.heap.size + 1 + 1) (.int .i64 a) (.int .i64 b) 28 by rw [HV1.out]; exact ((G1_ass.out.setOther ⟨B1_8, 0, none⟩ _ (by dsimp only; omega)).setOther ⟨B1_8, 1, none⟩ _ (by dsimp only; omega)))
    have G1_Ass := Lib.hid (show Two V1_s3 B1_6 (.int .i64 an) (.int .i64 ad) 28 by rw [HV1.out]; exact ((G1_As.out.setOther ⟨B1_8, 0, none⟩ _ (by dsimp only; omega)).setOther ⟨B1_8, 1, none⟩ _ (by dsimp only; omega)))
    have G1_Bs := Lib.hid (show Two V1_s3 B1_7 (.int .i64 bn) (.int .i64 bd) 28 by rw [HV1.out]; exact ((G1_B.out.setOther ⟨B1_8, 0, none⟩ _ (by dsimp only; omega)).setOther ⟨B1_8, 1, none⟩ _ (by dsimp only; omega)))
    have G1_C := Lib.hid (show Two V1_s3 B1_8 (.int .i64 cn) (.int .i64 cd) 28 by rw [HV1.out]; exact (HT1_8.out.set0 _).set1 _)
    have HB1_3 := Lib.hid (show Below w.heap.size w V1_s3 by rw [HV1.out]; exact ((HB1_2.out.setCell (by dsimp only; omega) _).setCell (by dsimp only; omega) _))
    clear HV1 HT1_8 HB1_2 G1_pss G1_rss G1_ass G1_As G1_B
    refine Lex.lexQ_normal (fun _ => ⟨G1_psss.out, G1_rsss.out, G1_asss.out⟩) ?_
    refine Lex.lex_nil ?_
    clear G1_psss G1_rsss G1_asss
    obtain ⟨⟨un, ud⟩, ⟨vn, vd⟩, ⟨xn, xd⟩, ⟨yn, yd⟩, ⟨gn, gd⟩, ⟨hn, hd⟩, ⟨ln, ld⟩, ⟨mn, md⟩, HO⟩ := field oka okb okc a1 a2 b1 b2 c1 c2
    have kab := ladd_w HO.hA HO.hB HO.ab HO.hu (w := w)
    have kba := ladd_w HO.hB HO.hA HO.ba HO.hu (w := w)
    have kmab := lmul_w HO.hA HO.hB HO.mab HO.hv (w := w)
    have kmba := lmul_w HO.hB HO.hA HO.mba HO.hv (w := w)
    have kuc := ladd_w HO.hu HO.hC HO.uc HO.hx (w := w)
    have kbc := ladd_w HO.hB HO.hC HO.bc HO.hy (w := w)
    have kay := ladd_w HO.hA HO.hy HO.ay HO.hx (w := w)
    have kvc := lmul_w HO.hv HO.hC HO.vc HO.hg (w := w)
    have kmbc := lmul_w HO.hB HO.hC HO.mbc HO.hh (w := w)
    have kah := lmul_w HO.hA HO.hh HO.ah HO.hg (w := w)
    have kmay := lmul_w HO.hA HO.hy HO.may HO.hl (w := w)
    have kmac := lmul_w HO.hA HO.hC HO.mac HO.hm (w := w)
    have kvm := ladd_w HO.hv HO.hm HO.vm HO.hl (w := w)
    have ksub := gsub_w HO.hu HO.hB HO.sub HO.hA (w := w)
    have kdiv := fun hn => gdiv_w HO.hv HO.hB hn (HO.div hn) HO.hA (w := w)
    have kzero : bn = 0 → ∀ W (_ : Below w.heap.size w W), Calls Tryz.prog 35 #[.agg #[.int .i64 vn, .int .i64 vd], .agg #[.int .i64 bn, .int .i64 bd]] W (RetW (.tuple #[.agg #[.int .i64 0, .int .i64 0], .int .i64 4]) W) := fun hb W _ => (gdiv_zero vn vd bn bd W HO.hv HO.hB hb).mono fun e w' h => RetW.of h
    have KDIV := Lib.hid kdiv
    have KZERO := Lib.hid kzero
    have kl := lives_y (w := w)
    clear HO kdiv kzero oka okb okc a1 a2 b1 b2 c1 c2
    go_upto_region 2 with fail
    refine Lex.wp_region_lex (fun w' => Two w' B1_6 (.int .i64 an) (.int .i64 ad) 28 ∧ Two w' B1_7 (.int .i64 bn) (.int .i64 bd) 28 ∧ Two w' B1_8 (.int .i64 cn) (.int .i64 cd) 28) (fun _ => true)
      [(0, true), (1, true), (3, true), (4, true), (2, false), (5, false), (6, true), (7, true), (8, true), (9, true), (11, true), (12, true), (10, false), (13, false), (14, true), (15, true), (16, true), (17, true), (18, true), (20, true), (22, true), (23, true), (24, true), (19, false), (21, false), (25, false), (26, false), (27, true), (28, true), (29, true), (30, true), (31, true), (33, true), (35, true), (36, true), (37, true), (32, false), (34, false), (38, false), (39, false), (40, true), (41, false)]
      (by kernel_rfl) (by kernel_rfl) (by kernel_rfl) (by kernel_rfl) ⟨G1_Ass.out, G1_Bs.out, G1_C.out⟩ ?_
    have hb20 : Below V1_s3.heap.size V1_s3 V1_s3.drew := ⟨rfl, rfl, rfl, Nat.le_refl _, fun _ _ => rfl⟩
    have hw20 : Below w.heap.size w V1_s3.drew := ⟨HB1_3.out.os, HB1_3.out.tape, HB1_3.out.output, HB1_3.out.size, HB1_3.out.block⟩
    generalize hV0 : V1_s3.drew = V20 at *
    clear hV0
    refine Lex.lex_take (v := ?_) rfl rfl (by rfl) (fun _ hS => ?_) ?_; rotate_left 1; (focus (have g0_0 := hS.1.cell0; have g0_1 := hS.1.cell1; have g1_0 := hS.2.1.cell0; have g1_1 := hS.2.1.cell1; have g2_0 := hS.2.2.cell0; have g2_1 := hS.2.2.cell1; clear hS; go_simp; with_reducible rfl)); simp only [List.setIfInBounds_toArray, List.set_cons_zero, List.set_cons_succ]
    refine Lex.lex_take (v := ?_) rfl rfl (by rfl) (fun _ hS => ?_) ?_; rotate_left 1; (focus (have g0_0 := hS.1.cell0; have g0_1 := hS.1.cell1; have g1_0 := hS.2.1.cell0; have g1_1 := hS.2.1.cell1; have g2_0 := hS.2.2.cell0; have g2_1 := hS.2.2.cell1; clear hS; go_simp; with_reducible rfl)); simp only [List.setIfInBounds_toArray, List.set_cons_zero, List.set_cons_succ]
    refine Lex.lex_take (v := ?_) rfl rfl (by rfl) (fun _ hS => ?_) ?_; rotate_left 1; (focus (have g0_0 := hS.1.cell0; have g0_1 := hS.1.cell1; have g1_0 := hS.2.1.cell0; have g1_1 := hS.2.1.cell1; have g2_0 := hS.2.2.cell0; have g2_1 := hS.2.2.cell1; clear hS; go_simp; with_reducible rfl)); simp only [List.setIfInBounds_toArray, List.set_cons_zero, List.set_cons_succ]
    refine Lex.lex_take (v := ?_) rfl rfl (by rfl) (fun _ hS => ?_) ?_; rotate_left 1; (focus (have g0_0 := hS.1.cell0; have g0_1 := hS.1.cell1; have g1_0 := hS.2.1.cell0; have g1_1 := hS.2.1.cell1; have g2_0 := hS.2.2.cell0; have g2_1 := hS.2.2.cell1; clear hS; go_simp; with_reducible rfl)); simp only [List.setIfInBounds_toArray, List.set_cons_zero, List.set_cons_succ]
    refine Lex.lex_do rfl ?_
    have cc := kab V20 hw20
    go_wp2_with fail
    refine cc.mono ?_
    rintro e V21 ⟨v21, rfl, hm21, hn21⟩
    have hb21 := hb20.trans (hn21.mono hb20.size)
    have hw21 := hw20.trans (hn21.mono hw20.size)
    subst hm21
    clear cc hb20 hw20 hn21
    go_wp2_with fail
    refine Lex.lexQ_normal (fun _ => ⟨G1_Ass.out.below hb21 G1_Ass.out.lt, G1_Bs.out.below hb21 G1_Bs.out.lt, G1_C.out.below hb21 G1_C.out.lt⟩) ?_
    refine Lex.lex_do rfl ?_
    have cc := kba V21 hw21
    go_wp2_with fail
    refine cc.mono ?_
    rintro e V22 ⟨v22, rfl, hm22, hn22⟩
    have hb22 := hb21.trans (hn22.mono hb21.size)
    have hw22 := hw21.trans (hn22.mono hw21.size)
    subst hm22
    clear cc hb21 hw21 hn22
    go_wp2_with fail
    refine Lex.lexQ_normal (fun _ => ⟨G1_Ass.out.below hb22 G1_Ass.out.lt, G1_Bs.out.below hb22 G1_Bs.out.lt, G1_C.out.below hb22 G1_C.out.lt⟩) ?_
    refine Lex.lex_take (v := ?_) rfl rfl (by rfl) (fun _ hS => ?_) ?_; rotate_left 1; (focus (have g0_0 := hS.1.cell0; have g0_1 := hS.1.cell1; have g1_0 := hS.2.1.cell0; have g1_1 := hS.2.1.cell1; have g2_0 := hS.2.2.cell0; have g2_1 := hS.2.2.cell1; clear hS; go_simp; with_reducible rfl)); simp only [List.setIfInBounds_toArray, List.set_cons_zero, List.set_cons_succ]
    refine Lex.lex_take (v := ?_) rfl rfl (by rfl) (fun _ hS => ?_) ?_; rotate_left 1; (focus (have g0_0 := hS.1.cell0; have g0_1 := hS.1.cell1; have g1_0 := hS.2.1.cell0; have g1_1 := hS.2.1.cell1; have g2_0 := hS.2.2.cell0; have g2_1 := hS.2.2.cell1; clear hS; go_simp; with_reducible rfl)); simp only [List.setIfInBounds_toArray, List.set_cons_zero, List.set_cons_succ]
    refine Lex.lex_take (v := ?_) rfl rfl (by rfl) (fun _ hS => ?_) ?_; rotate_left 1; (focus (have g0_0 := hS.1.cell0; have g0_1 := hS.1.cell1; have g1_0 := hS.2.1.cell0; have g1_1 := hS.2.1.cell1; have g2_0 := hS.2.2.cell0; have g2_1 := hS.2.2.cell1; clear hS; go_simp; with_reducible rfl)); simp only [List.setIfInBounds_toArray, List.set_cons_zero, List.set_cons_succ]
    refine Lex.lex_take (v := ?_) rfl rfl (by rfl) (fun _ hS => ?_) ?_; rotate_left 1; (focus (have g0_0 := hS.1.cell0; have g0_1 := hS.1.cell1; have g1_0 := hS.2.1.cell0; have g1_1 := hS.2.1.cell1; have g2_0 := hS.2.2.cell0; have g2_1 := hS.2.2.cell1; clear hS; go_simp; with_reducible rfl)); simp only [List.setIfInBounds_toArray, List.set_cons_zero, List.set_cons_succ]
    refine Lex.lex_take (v := ?_) rfl rfl (by rfl) (fun _ hS => ?_) ?_; rotate_left 1; (focus (have g0_0 := hS.1.cell0; have g0_1 := hS.1.cell1; have g1_0 := hS.2.1.cell0; have g1_1 := hS.2.1.cell1; have g2_0 := hS.2.2.cell0; have g2_1 := hS.2.2.cell1; clear hS; go_simp; with_reducible rfl)); simp only [List.setIfInBounds_toArray, List.set_cons_zero, List.set_cons_succ]
    refine Lex.lex_take (v := ?_) rfl rfl (by rfl) (fun _ hS => ?_) ?_; rotate_left 1; (focus (have g0_0 := hS.1.cell0; have g0_1 := hS.1.cell1; have g1_0 := hS.2.1.cell0; have g1_1 := hS.2.1.cell1; have g2_0 := hS.2.2.cell0; have g2_1 := hS.2.2.cell1; clear hS; go_simp; with_reducible rfl)); simp only [List.setIfInBounds_toArray, List.set_cons_zero, List.set_cons_succ]
    refine Lex.lex_do rfl ?_
    have cc := kmab V22 hw22
    go_wp2_with fail
    refine cc.mono ?_
    rintro e V23 ⟨v23, rfl, hm23, hn23⟩
    have hb23 := hb22.trans (hn23.mono hb22.size)
    have hw23 := hw22.trans (hn23.mono hw22.size)
    subst hm23
    clear cc hb22 hw22 hn23
    go_wp2_with fail
    refine Lex.lexQ_normal (fun _ => ⟨G1_Ass.out.below hb23 G1_Ass.out.lt, G1_Bs.out.below hb23 G1_Bs.out.lt, G1_C.out.below hb23 G1_C.out.lt⟩) ?_
    refine Lex.lex_do rfl ?_
    have cc := kmba V23 hw23
    go_wp2_with fail
    refine cc.mono ?_
    rintro e V24 ⟨v24, rfl, hm24, hn24⟩
    have hb24 := hb23.trans (hn24.mono hb23.size)
    have hw24 := hw23.trans (hn24.mono hw23.size)
    subst hm24
    clear cc hb23 hw23 hn24
    go_wp2_with fail
    refine Lex.lexQ_normal (fun _ => ⟨G1_Ass.out.below hb24 G1_Ass.out.lt, G1_Bs.out.below hb24 G1_Bs.out.lt, G1_C.out.below hb24 G1_C.out.lt⟩) ?_
    refine Lex.lex_take (v := ?_) rfl rfl (by rfl) (fun _ hS => ?_) ?_; rotate_left 1; (focus (have g0_0 := hS.1.cell0; have g0_1 := hS.1.cell1; have g1_0 := hS.2.1.cell0; have g1_1 := hS.2.1.cell1; have g2_0 := hS.2.2.cell0; have g2_1 := hS.2.2.cell1; clear hS; go_simp; with_reducible rfl)); simp only [List.setIfInBounds_toArray, List.set_cons_zero, List.set_cons_succ]
    refine Lex.lex_take (v := ?_) rfl rfl (by rfl) (fun _ hS => ?_) ?_; rotate_left 1; (focus (have g0_0 := hS.1.cell0; have g0_1 := hS.1.cell1; have g1_0 := hS.2.1.cell0; have g1_1 := hS.2.1.cell1; have g2_0 := hS.2.2.cell0; have g2_1 := hS.2.2.cell1; clear hS; go_simp; with_reducible rfl)); simp only [List.setIfInBounds_toArray, List.set_cons_zero, List.set_cons_succ]
    refine Lex.lex_take (v := ?_) rfl rfl (by rfl) (fun _ hS => ?_) ?_; rotate_left 1; (focus (have g0_0 := hS.1.cell0; have g0_1 := hS.1.cell1; have g1_0 := hS.2.1.cell0; have g1_1 := hS.2.1.cell1; have g2_0 := hS.2.2.cell0; have g2_1 := hS.2.2.cell1; clear hS; go_simp; with_reducible rfl)); simp only [List.setIfInBounds_toArray, List.set_cons_zero, List.set_cons_succ]
    refine Lex.lex_take (v := ?_) rfl rfl (by rfl) (fun _ hS => ?_) ?_; rotate_left 1; (focus (have g0_0 := hS.1.cell0; have g0_1 := hS.1.cell1; have g1_0 := hS.2.1.cell0; have g1_1 := hS.2.1.cell1; have g2_0 := hS.2.2.cell0; have g2_1 := hS.2.2.cell1; clear hS; go_simp; with_reducible rfl)); simp only [List.setIfInBounds_toArray, List.set_cons_zero, List.set_cons_succ]
    refine Lex.lex_take (v := ?_) rfl rfl (by rfl) (fun _ hS => ?_) ?_; rotate_left 1; (focus (have g0_0 := hS.1.cell0; have g0_1 := hS.1.cell1; have g1_0 := hS.2.1.cell0; have g1_1 := hS.2.1.cell1; have g2_0 := hS.2.2.cell0; have g2_1 := hS.2.2.cell1; clear hS; go_simp; with_reducible rfl)); simp only [List.setIfInBounds_toArray, List.set_cons_zero, List.set_cons_succ]
    refine Lex.lex_take (v := ?_) rfl rfl (by rfl) (fun _ hS => ?_) ?_; rotate_left 1; (focus (have g0_0 := hS.1.cell0; have g0_1 := hS.1.cell1; have g1_0 := hS.2.1.cell0; have g1_1 := hS.2.1.cell1; have g2_0 := hS.2.2.cell0; have g2_1 := hS.2.2.cell1; clear hS; go_simp; with_reducible rfl)); simp only [List.setIfInBounds_toArray, List.set_cons_zero, List.set_cons_succ]
    refine Lex.lex_take (v := ?_) rfl rfl (by rfl) (fun _ hS => ?_) ?_; rotate_left 1; (focus (have g0_0 := hS.1.cell0; have g0_1 := hS.1.cell1; have g1_0 := hS.2.1.cell0; have g1_1 := hS.2.1.cell1; have g2_0 := hS.2.2.cell0; have g2_1 := hS.2.2.cell1; clear hS; go_simp; with_reducible rfl)); simp only [List.setIfInBounds_toArray, List.set_cons_zero, List.set_cons_succ]
    refine Lex.lex_take (v := ?_) rfl rfl (by rfl) (fun _ hS => ?_) ?_; rotate_left 1; (focus (have g0_0 := hS.1.cell0; have g0_1 := hS.1.cell1; have g1_0 := hS.2.1.cell0; have g1_1 := hS.2.1.cell1; have g2_0 := hS.2.2.cell0; have g2_1 := hS.2.2.cell1; clear hS; go_simp; with_reducible rfl)); simp only [List.setIfInBounds_toArray, List.set_cons_zero, List.set_cons_succ]
    refine Lex.lex_take (v := ?_) rfl rfl (by rfl) (fun _ hS => ?_) ?_; rotate_left 1; (focus (have g0_0 := hS.1.cell0; have g0_1 := hS.1.cell1; have g1_0 := hS.2.1.cell0; have g1_1 := hS.2.1.cell1; have g2_0 := hS.2.2.cell0; have g2_1 := hS.2.2.cell1; clear hS; go_simp; with_reducible rfl)); simp only [List.setIfInBounds_toArray, List.set_cons_zero, List.set_cons_succ]
    refine Lex.lex_do rfl ?_
    have cc := kab V24 hw24
    go_wp2_with fail
    refine cc.mono ?_
    rintro e V25 ⟨v25, rfl, hm25, hn25⟩
    have hb25 := hb24.trans (hn25.mono hb24.size)
    have hw25 := hw24.trans (hn25.mono hw24.size)
    subst hm25
    clear cc hb24 hw24 hn25
    go_wp2_with fail
    refine Lex.lexQ_normal (fun _ => ⟨G1_Ass.out.below hb25 G1_Ass.out.lt, G1_Bs.out.below hb25 G1_Bs.out.lt, G1_C.out.below hb25 G1_C.out.lt⟩) ?_
    refine Lex.lex_do rfl ?_
    have cc := kuc V25 hw25
    go_wp2_with fail
    refine cc.mono ?_
    rintro e V26 ⟨v26, rfl, hm26, hn26⟩
    have hb26 := hb25.trans (hn26.mono hb25.size)
    have hw26 := hw25.trans (hn26.mono hw25.size)
    subst hm26
    clear cc hb25 hw25 hn26
    go_wp2_with fail
    refine Lex.lexQ_normal (fun _ => ⟨G1_Ass.out.below hb26 G1_Ass.out.lt, G1_Bs.out.below hb26 G1_Bs.out.lt, G1_C.out.below hb26 G1_C.out.lt⟩) ?_
    refine Lex.lex_do rfl ?_
    have cc := kbc V26 hw26
    go_wp2_with fail
    refine cc.mono ?_
    rintro e V27 ⟨v27, rfl, hm27, hn27⟩
    have hb27 := hb26.trans (hn27.mono hb26.size)
    have hw27 := hw26.trans (hn27.mono hw26.size)
    subst hm27
    clear cc hb26 hw26 hn27
    go_wp2_with fail
    refine Lex.lexQ_normal (fun _ => ⟨G1_Ass.out.below hb27 G1_Ass.out.lt, G1_Bs.out.below hb27 G1_Bs.out.lt, G1_C.out.below hb27 G1_C.out.lt⟩) ?_
    refine Lex.lex_do rfl ?_
    have cc := kay V27 hw27
    go_wp2_with fail
    refine cc.mono ?_
    rintro e V28 ⟨v28, rfl, hm28, hn28⟩
    have hb28 := hb27.trans (hn28.mono hb27.size)
    have hw28 := hw27.trans (hn28.mono hw27.size)
    subst hm28
    clear cc hb27 hw27 hn28
    go_wp2_with fail
    refine Lex.lexQ_normal (fun _ => ⟨G1_Ass.out.below hb28 G1_Ass.out.lt, G1_Bs.out.below hb28 G1_Bs.out.lt, G1_C.out.below hb28 G1_C.out.lt⟩) ?_
    refine Lex.lex_take (v := ?_) rfl rfl (by rfl) (fun _ hS => ?_) ?_; rotate_left 1; (focus (have g0_0 := hS.1.cell0; have g0_1 := hS.1.cell1; have g1_0 := hS.2.1.cell0; have g1_1 := hS.2.1.cell1; have g2_0 := hS.2.2.cell0; have g2_1 := hS.2.2.cell1; clear hS; go_simp; with_reducible rfl)); simp only [List.setIfInBounds_toArray, List.set_cons_zero, List.set_cons_succ]
    refine Lex.lex_take (v := ?_) rfl rfl (by rfl) (fun _ hS => ?_) ?_; rotate_left 1; (focus (have g0_0 := hS.1.cell0; have g0_1 := hS.1.cell1; have g1_0 := hS.2.1.cell0; have g1_1 := hS.2.1.cell1; have g2_0 := hS.2.2.cell0; have g2_1 := hS.2.2.cell1; clear hS; go_simp; with_reducible rfl)); simp only [List.setIfInBounds_toArray, List.set_cons_zero, List.set_cons_succ]
    refine Lex.lex_take (v := ?_) rfl rfl (by rfl) (fun _ hS => ?_) ?_; rotate_left 1; (focus (have g0_0 := hS.1.cell0; have g0_1 := hS.1.cell1; have g1_0 := hS.2.1.cell0; have g1_1 := hS.2.1.cell1; have g2_0 := hS.2.2.cell0; have g2_1 := hS.2.2.cell1; clear hS; go_simp; with_reducible rfl)); simp only [List.setIfInBounds_toArray, List.set_cons_zero, List.set_cons_succ]
    refine Lex.lex_take (v := ?_) rfl rfl (by rfl) (fun _ hS => ?_) ?_; rotate_left 1; (focus (have g0_0 := hS.1.cell0; have g0_1 := hS.1.cell1; have g1_0 := hS.2.1.cell0; have g1_1 := hS.2.1.cell1; have g2_0 := hS.2.2.cell0; have g2_1 := hS.2.2.cell1; clear hS; go_simp; with_reducible rfl)); simp only [List.setIfInBounds_toArray, List.set_cons_zero, List.set_cons_succ]
    refine Lex.lex_take (v := ?_) rfl rfl (by rfl) (fun _ hS => ?_) ?_; rotate_left 1; (focus (have g0_0 := hS.1.cell0; have g0_1 := hS.1.cell1; have g1_0 := hS.2.1.cell0; have g1_1 := hS.2.1.cell1; have g2_0 := hS.2.2.cell0; have g2_1 := hS.2.2.cell1; clear hS; go_simp; with_reducible rfl)); simp only [List.setIfInBounds_toArray, List.set_cons_zero, List.set_cons_succ]
    refine Lex.lex_take (v := ?_) rfl rfl (by rfl) (fun _ hS => ?_) ?_; rotate_left 1; (focus (have g0_0 := hS.1.cell0; have g0_1 := hS.1.cell1; have g1_0 := hS.2.1.cell0; have g1_1 := hS.2.1.cell1; have g2_0 := hS.2.2.cell0; have g2_1 := hS.2.2.cell1; clear hS; go_simp; with_reducible rfl)); simp only [List.setIfInBounds_toArray, List.set_cons_zero, List.set_cons_succ]
    refine Lex.lex_take (v := ?_) rfl rfl (by rfl) (fun _ hS => ?_) ?_; rotate_left 1; (focus (have g0_0 := hS.1.cell0; have g0_1 := hS.1.cell1; have g1_0 := hS.2.1.cell0; have g1_1 := hS.2.1.cell1; have g2_0 := hS.2.2.cell0; have g2_1 := hS.2.2.cell1; clear hS; go_simp; with_reducible rfl)); simp only [List.setIfInBounds_toArray, List.set_cons_zero, List.set_cons_succ]
    refine Lex.lex_take (v := ?_) rfl rfl (by rfl) (fun _ hS => ?_) ?_; rotate_left 1; (focus (have g0_0 := hS.1.cell0; have g0_1 := hS.1.cell1; have g1_0 := hS.2.1.cell0; have g1_1 := hS.2.1.cell1; have g2_0 := hS.2.2.cell0; have g2_1 := hS.2.2.cell1; clear hS; go_simp; with_reducible rfl)); simp only [List.setIfInBounds_toArray, List.set_cons_zero, List.set_cons_succ]
    refine Lex.lex_take (v := ?_) rfl rfl (by rfl) (fun _ hS => ?_) ?_; rotate_left 1; (focus (have g0_0 := hS.1.cell0; have g0_1 := hS.1.cell1; have g1_0 := hS.2.1.cell0; have g1_1 := hS.2.1.cell1; have g2_0 := hS.2.2.cell0; have g2_1 := hS.2.2.cell1; clear hS; go_simp; with_reducible rfl)); simp only [List.setIfInBounds_toArray, List.set_cons_zero, List.set_cons_succ]
    refine Lex.lex_do rfl ?_
    have cc := kmab V28 hw28
    go_wp2_with fail
    refine cc.mono ?_
    rintro e V29 ⟨v29, rfl, hm29, hn29⟩
    have hb29 := hb28.trans (hn29.mono hb28.size)
    have hw29 := hw28.trans (hn29.mono hw28.size)
    subst hm29
    clear cc hb28 hw28 hn29
    go_wp2_with fail
    refine Lex.lexQ_normal (fun _ => ⟨G1_Ass.out.below hb29 G1_Ass.out.lt, G1_Bs.out.below hb29 G1_Bs.out.lt, G1_C.out.below hb29 G1_C.out.lt⟩) ?_
    refine Lex.lex_do rfl ?_
    have cc := kvc V29 hw29
    go_wp2_with fail
    refine cc.mono ?_
    rintro e V30 ⟨v30, rfl, hm30, hn30⟩
    have hb30 := hb29.trans (hn30.mono hb29.size)
    have hw30 := hw29.trans (hn30.mono hw29.size)
    subst hm30
    clear cc hb29 hw29 hn30
    go_wp2_with fail
    refine Lex.lexQ_normal (fun _ => ⟨G1_Ass.out.below hb30 G1_Ass.out.lt, G1_Bs.out.below hb30 G1_Bs.out.lt, G1_C.out.below hb30 G1_C.out.lt⟩) ?_
    refine Lex.lex_do rfl ?_
    have cc := kmbc V30 hw30
    go_wp2_with fail
    refine cc.mono ?_
    rintro e V31 ⟨v31, rfl, hm31, hn31⟩
    have hb31 := hb30.trans (hn31.mono hb30.size)
    have hw31 := hw30.trans (hn31.mono hw30.size)
    subst hm31
    clear cc hb30 hw30 hn31
    go_wp2_with fail
    refine Lex.lexQ_normal (fun _ => ⟨G1_Ass.out.below hb31 G1_Ass.out.lt, G1_Bs.out.below hb31 G1_Bs.out.lt, G1_C.out.below hb31 G1_C.out.lt⟩) ?_
    refine Lex.lex_do rfl ?_
    have cc := kah V31 hw31
    go_wp2_with fail
    refine cc.mono ?_
    rintro e V32 ⟨v32, rfl, hm32, hn32⟩
    have hb32 := hb31.trans (hn32.mono hb31.size)
    have hw32 := hw31.trans (hn32.mono hw31.size)
    subst hm32
    clear cc hb31 hw31 hn32
    go_wp2_with fail
    refine Lex.lexQ_normal (fun _ => ⟨G1_Ass.out.below hb32 G1_Ass.out.lt, G1_Bs.out.below hb32 G1_Bs.out.lt, G1_C.out.below hb32 G1_C.out.lt⟩) ?_
    refine Lex.lex_take (v := ?_) rfl rfl (by rfl) (fun _ hS => ?_) ?_; rotate_left 1; (focus (have g0_0 := hS.1.cell0; have g0_1 := hS.1.cell1; have g1_0 := hS.2.1.cell0; have g1_1 := hS.2.1.cell1; have g2_0 := hS.2.2.cell0; have g2_1 := hS.2.2.cell1; clear hS; go_simp; with_reducible rfl)); simp only [List.setIfInBounds_toArray, List.set_cons_zero, List.set_cons_succ]
    refine Lex.lex_do rfl ?_
    go_wp2_with fail
    refine Lex.lexQ_normal (fun _ => ⟨G1_Ass.out.below hb32 G1_Ass.out.lt, G1_Bs.out.below hb32 G1_Bs.out.lt, G1_C.out.below hb32 G1_C.out.lt⟩) ?_
    refine Lex.lex_nil ?_
    have F3_A := Lib.hid (G1_Ass.out.below hb32 G1_Ass.out.lt)
    have F3_B := Lib.hid (G1_Bs.out.below hb32 G1_Bs.out.lt)
    have F3_C := Lib.hid (G1_C.out.below hb32 G1_C.out.lt)
    have B3_ := Lib.hid hw32
    clear hb32 hw32 G1_Ass G1_Bs G1_C HB1_3
    go_upto_region 4 with fail
    refine Lex.wp_region_lex (fun w' => Two w' B1_6 (.int .i64 an) (.int .i64 ad) 28 ∧ Two w' B1_7 (.int .i64 bn) (.int .i64 bd) 28 ∧ Two w' B1_8 (.int .i64 cn) (.int .i64 cd) 28) (fun _ => true)
      [(0, true), (1, true), (2, true), (5, true), (6, true), (8, true), (9, true), (3, false), (4, false), (7, false), (10, false), (11, false), (12, true), (13, true), (14, false), (15, true), (16, false)]
      (by kernel_rfl) (by kernel_rfl) (by kernel_rfl) (by kernel_rfl) ⟨F3_A.out, F3_B.out, F3_C.out⟩ ?_
    have hb40 : Below V32.heap.size V32 V32.drew := ⟨rfl, rfl, rfl, Nat.le_refl _, fun _ _ => rfl⟩
    have hw40 : Below w.heap.size w V32.drew := ⟨B3_.out.os, B3_.out.tape, B3_.out.output, B3_.out.size, B3_.out.block⟩
    generalize hV0 : V32.drew = V40 at *
    clear hV0
    refine Lex.lex_take (v := ?_) rfl rfl (by rfl) (fun _ hS => ?_) ?_; rotate_left 1; (focus (have g0_0 := hS.1.cell0; have g0_1 := hS.1.cell1; have g1_0 := hS.2.1.cell0; have g1_1 := hS.2.1.cell1; have g2_0 := hS.2.2.cell0; have g2_1 := hS.2.2.cell1; clear hS; go_simp; with_reducible rfl)); simp only [List.setIfInBounds_toArray, List.set_cons_zero, List.set_cons_succ]
    refine Lex.lex_take (v := ?_) rfl rfl (by rfl) (fun _ hS => ?_) ?_; rotate_left 1; (focus (have g0_0 := hS.1.cell0; have g0_1 := hS.1.cell1; have g1_0 := hS.2.1.cell0; have g1_1 := hS.2.1.cell1; have g2_0 := hS.2.2.cell0; have g2_1 := hS.2.2.cell1; clear hS; go_simp; with_reducible rfl)); simp only [List.setIfInBounds_toArray, List.set_cons_zero, List.set_cons_succ]
    refine Lex.lex_take (v := ?_) rfl rfl (by rfl) (fun _ hS => ?_) ?_; rotate_left 1; (focus (have g0_0 := hS.1.cell0; have g0_1 := hS.1.cell1; have g1_0 := hS.2.1.cell0; have g1_1 := hS.2.1.cell1; have g2_0 := hS.2.2.cell0; have g2_1 := hS.2.2.cell1; clear hS; go_simp; with_reducible rfl)); simp only [List.setIfInBounds_toArray, List.set_cons_zero, List.set_cons_succ]
    refine Lex.lex_take (v := ?_) rfl rfl (by rfl) (fun _ hS => ?_) ?_; rotate_left 1; (focus (have g0_0 := hS.1.cell0; have g0_1 := hS.1.cell1; have g1_0 := hS.2.1.cell0; have g1_1 := hS.2.1.cell1; have g2_0 := hS.2.2.cell0; have g2_1 := hS.2.2.cell1; clear hS; go_simp; with_reducible rfl)); simp only [List.setIfInBounds_toArray, List.set_cons_zero, List.set_cons_succ]
    refine Lex.lex_take (v := ?_) rfl rfl (by rfl) (fun _ hS => ?_) ?_; rotate_left 1; (focus (have g0_0 := hS.1.cell0; have g0_1 := hS.1.cell1; have g1_0 := hS.2.1.cell0; have g1_1 := hS.2.1.cell1; have g2_0 := hS.2.2.cell0; have g2_1 := hS.2.2.cell1; clear hS; go_simp; with_reducible rfl)); simp only [List.setIfInBounds_toArray, List.set_cons_zero, List.set_cons_succ]
    refine Lex.lex_take (v := ?_) rfl rfl (by rfl) (fun _ hS => ?_) ?_; rotate_left 1; (focus (have g0_0 := hS.1.cell0; have g0_1 := hS.1.cell1; have g1_0 := hS.2.1.cell0; have g1_1 := hS.2.1.cell1; have g2_0 := hS.2.2.cell0; have g2_1 := hS.2.2.cell1; clear hS; go_simp; with_reducible rfl)); simp only [List.setIfInBounds_toArray, List.set_cons_zero, List.set_cons_succ]
    refine Lex.lex_take (v := ?_) rfl rfl (by rfl) (fun _ hS => ?_) ?_; rotate_left 1; (focus (have g0_0 := hS.1.cell0; have g0_1 := hS.1.cell1; have g1_0 := hS.2.1.cell0; have g1_1 := hS.2.1.cell1; have g2_0 := hS.2.2.cell0; have g2_1 := hS.2.2.cell1; clear hS; go_simp; with_reducible rfl)); simp only [List.setIfInBounds_toArray, List.set_cons_zero, List.set_cons_succ]
    refine Lex.lex_do rfl ?_
    have cc := kbc V40 hw40
    go_wp2_with fail
    refine cc.mono ?_
    rintro e V41 ⟨v41, rfl, hm41, hn41⟩
    have hb41 := hb40.trans (hn41.mono hb40.size)
    have hw41 := hw40.trans (hn41.mono hw40.size)
    subst hm41
    clear cc hb40 hw40 hn41
    go_wp2_with fail
    refine Lex.lexQ_normal (fun _ => ⟨F3_A.out.below hb41 F3_A.out.lt, F3_B.out.below hb41 F3_B.out.lt, F3_C.out.below hb41 F3_C.out.lt⟩) ?_
    refine Lex.lex_do rfl ?_
    have cc := kmay V41 hw41
    go_wp2_with fail
    refine cc.mono ?_
    rintro e V42 ⟨v42, rfl, hm42, hn42⟩
    have hb42 := hb41.trans (hn42.mono hb41.size)
    have hw42 := hw41.trans (hn42.mono hw41.size)
    subst hm42
    clear cc hb41 hw41 hn42
    go_wp2_with fail
    refine Lex.lexQ_normal (fun _ => ⟨F3_A.out.below hb42 F3_A.out.lt, F3_B.out.below hb42 F3_B.out.lt, F3_C.out.below hb42 F3_C.out.lt⟩) ?_
    refine Lex.lex_do rfl ?_
    have cc := kmab V42 hw42
    go_wp2_with fail
    refine cc.mono ?_
    rintro e V43 ⟨v43, rfl, hm43, hn43⟩
    have hb43 := hb42.trans (hn43.mono hb42.size)
    have hw43 := hw42.trans (hn43.mono hw42.size)
    subst hm43
    clear cc hb42 hw42 hn43
    go_wp2_with fail
    refine Lex.lexQ_normal (fun _ => ⟨F3_A.out.below hb43 F3_A.out.lt, F3_B.out.below hb43 F3_B.out.lt, F3_C.out.below hb43 F3_C.out.lt⟩) ?_
    refine Lex.lex_do rfl ?_
    have cc := kmac V43 hw43
    go_wp2_with fail
    refine cc.mono ?_
    rintro e V44 ⟨v44, rfl, hm44, hn44⟩
    have hb44 := hb43.trans (hn44.mono hb43.size)
    have hw44 := hw43.trans (hn44.mono hw43.size)
    subst hm44
    clear cc hb43 hw43 hn44
    go_wp2_with fail
    refine Lex.lexQ_normal (fun _ => ⟨F3_A.out.below hb44 F3_A.out.lt, F3_B.out.below hb44 F3_B.out.lt, F3_C.out.below hb44 F3_C.out.lt⟩) ?_
    refine Lex.lex_do rfl ?_
    have cc := kvm V44 hw44
    go_wp2_with fail
    refine cc.mono ?_
    rintro e V45 ⟨v45, rfl, hm45, hn45⟩
    have hb45 := hb44.trans (hn45.mono hb44.size)
    have hw45 := hw44.trans (hn45.mono hw44.size)
    subst hm45
    clear cc hb44 hw44 hn45
    go_wp2_with fail
    refine Lex.lexQ_normal (fun _ => ⟨F3_A.out.below hb45 F3_A.out.lt, F3_B.out.below hb45 F3_B.out.lt, F3_C.out.below hb45 F3_C.out.lt⟩) ?_
    refine Lex.lex_take (v := ?_) rfl rfl (by rfl) (fun _ hS => ?_) ?_; rotate_left 1; (focus (have g0_0 := hS.1.cell0; have g0_1 := hS.1.cell1; have g1_0 := hS.2.1.cell0; have g1_1 := hS.2.1.cell1; have g2_0 := hS.2.2.cell0; have g2_1 := hS.2.2.cell1; clear hS; go_simp; with_reducible rfl)); simp only [List.setIfInBounds_toArray, List.set_cons_zero, List.set_cons_succ]
    refine Lex.lex_take (v := ?_) rfl rfl (by rfl) (fun _ hS => ?_) ?_; rotate_left 1; (focus (have g0_0 := hS.1.cell0; have g0_1 := hS.1.cell1; have g1_0 := hS.2.1.cell0; have g1_1 := hS.2.1.cell1; have g2_0 := hS.2.2.cell0; have g2_1 := hS.2.2.cell1; clear hS; go_simp; with_reducible rfl)); simp only [List.setIfInBounds_toArray, List.set_cons_zero, List.set_cons_succ]
    refine Lex.lex_do rfl ?_
    have cc := kl V45 hw45
    go_wp2_with fail
    refine cc.mono ?_
    rintro e V46 ⟨v46, rfl, hm46, hn46⟩
    have hb46 := hb45.trans (hn46.mono hb45.size)
    have hw46 := hw45.trans (hn46.mono hw45.size)
    subst hm46
    clear cc hb45 hw45 hn46
    go_wp2_with fail
    refine Lex.lexQ_normal (fun _ => ⟨F3_A.out.below hb46 F3_A.out.lt, F3_B.out.below hb46 F3_B.out.lt, F3_C.out.below hb46 F3_C.out.lt⟩) ?_
    refine Lex.lex_take (v := ?_) rfl rfl (by rfl) (fun _ hS => ?_) ?_; rotate_left 1; (focus (have g0_0 := hS.1.cell0; have g0_1 := hS.1.cell1; have g1_0 := hS.2.1.cell0; have g1_1 := hS.2.1.cell1; have g2_0 := hS.2.2.cell0; have g2_1 := hS.2.2.cell1; clear hS; go_simp; with_reducible rfl)); simp only [List.setIfInBounds_toArray, List.set_cons_zero, List.set_cons_succ]
    refine Lex.lex_do rfl ?_
    go_wp2_with fail
    refine Lex.lexQ_normal (fun _ => ⟨F3_A.out.below hb46 F3_A.out.lt, F3_B.out.below hb46 F3_B.out.lt, F3_C.out.below hb46 F3_C.out.lt⟩) ?_
    refine Lex.lex_nil ?_
    have F5_A := Lib.hid (F3_A.out.below hb46 F3_A.out.lt)
    have F5_B := Lib.hid (F3_B.out.below hb46 F3_B.out.lt)
    have F5_C := Lib.hid (F3_C.out.below hb46 F3_C.out.lt)
    have B5_ := Lib.hid hw46
    clear hb46 hw46 F3_A F3_B F3_C B3_
    clear kba kmba kuc kbc kay kvc kmbc kah kmay kmac kvm kl
    go_upto_region 6 with fail
    refine Lex.wp_region_mix (fun w' => Two w' B1_6 (.int .i64 an) (.int .i64 ad) 28 ∧ Two w' B1_7 (.int .i64 bn) (.int .i64 bd) 28 ∧ Two w' B1_8 (.int .i64 cn) (.int .i64 cd) 28)
      [(0, 80), (1, 81), (2, 82), (3, 83), (4, 84), (5, 79), (6, 85), (7, 86), (8, 10)] (fun j => j == 0 || j == 1 || j == 3 || j == 5 || j == 6 || j == 7) (fun j => j == 8) [(9, false), (10, false)]
      (fun i v w' => match i with | 0 => v = .agg #[.int .i64 an, .int .i64 ad] | 1 => v = .agg #[.int .i64 bn, .int .i64 bd] | 2 => v = .agg #[.int .i64 un, .int .i64 ud] | 3 => v = .agg #[.int .i64 bn, .int .i64 bd] | 4 => v = .tuple #[.agg #[.int .i64 an, .int .i64 ad], .int .i64 0] | 5 => v = .tuple #[.agg #[.int .i64 an, .int .i64 ad], .int .i64 0] | 6 => v = .agg #[.int .i64 an, .int .i64 ad] | 7 => v = .int .i64 0 | 8 => ∃ B, v = .pointer (some ⟨B, 0, none⟩) ∧ V46.heap.size ≤ B ∧ Two w' B (.int .i64 0) (.int .i64 0) 28 | _ => False)
      (by kernel_rfl) (by kernel_rfl) (by kernel_rfl) ⟨F5_A.out, F5_B.out, F5_C.out⟩ (fun w1 w2 hS hb => ⟨hS.1.below hb hS.1.lt, hS.2.1.below hb hS.2.1.lt, hS.2.2.below hb hS.2.2.lt⟩) ?_ ?_ ?_
    · refine Lex.all_cons ?_ (Lex.all_cons ?_ (Lex.all_cons ?_ (Lex.all_cons ?_ (Lex.all_cons ?_ (Lex.all_cons ?_ (Lex.all_cons ?_ (Lex.all_cons ?_ (Lex.all_cons ?_ (Lex.all_nil)))))))))
      · exact fun v w1 w2 h _ => h
      · exact fun v w1 w2 h _ => h
      · exact fun v w1 w2 h _ => h
      · exact fun v w1 w2 h _ => h
      · exact fun v w1 w2 h _ => h
      · exact fun v w1 w2 h _ => h
      · exact fun v w1 w2 h _ => h
      · exact fun v w1 w2 h _ => h
      · exact fun v w1 w2 ⟨B, hv, hl, hT⟩ hb => ⟨B, hv, hl, hT.below hb hT.lt⟩
    · refine Lex.all_cons ?_ (Lex.all_cons ?_ (Lex.all_cons ?_ (Lex.all_cons ?_ (Lex.all_cons ?_ (Lex.all_cons ?_ (Lex.all_cons ?_ (Lex.all_cons ?_ (Lex.all_cons ?_ (Lex.all_nil)))))))))
      · refine Lex.ob_eager rfl rfl (fun σ w1 hS hB hg => ⟨.agg #[.int .i64 an, .int .i64 ad], rfl, fun w2 hS => ?_, rfl⟩)
        clear hg
        simp only [Lex.full, Act.put, List.setIfInBounds_toArray, List.set_cons_zero, List.set_cons_succ]
        have f0_0 := hS.1.cell0
        have f0_1 := hS.1.cell1
        have f1_0 := hS.2.1.cell0
        have f1_1 := hS.2.1.cell1
        have f2_0 := hS.2.2.cell0
        have f2_1 := hS.2.2.cell1
        clear hS
        go_simp
        all_goals with_reducible rfl
      · refine Lex.ob_eager rfl rfl (fun σ w1 hS hB hg => ⟨.agg #[.int .i64 bn, .int .i64 bd], rfl, fun w2 hS => ?_, rfl⟩)
        clear hg
        simp only [Lex.full, Act.put, List.setIfInBounds_toArray, List.set_cons_zero, List.set_cons_succ]
        have f0_0 := hS.1.cell0
        have f0_1 := hS.1.cell1
        have f1_0 := hS.2.1.cell0
        have f1_1 := hS.2.1.cell1
        have f2_0 := hS.2.2.cell0
        have f2_1 := hS.2.2.cell1
        clear hS
        go_simp
        all_goals with_reducible rfl
      · refine Lex.ob_step rfl rfl rfl (fun σ w1 hS hB hg K hK => ?_)
        have HK := Lib.hid hK
        clear hK
        have g0 : (σ 0) = .agg #[.int .i64 an, .int .i64 ad] := hg (0, 80) (by simp) (by kernel_rfl)
        have g1 : (σ 1) = .agg #[.int .i64 bn, .int .i64 bd] := hg (1, 81) (by simp) (by kernel_rfl)
        clear hg
        simp only [Lex.full, Act.put, List.setIfInBounds_toArray, List.set_cons_zero, List.set_cons_succ]
        simp only [g0, g1]
        have hw1 : Below w.heap.size w w1 := B5_.out.drew.trans (hB.mono B5_.out.size)
        have cc := kab w1 hw1
        go_wp2_with fail
        refine cc.mono ?_
        rintro e w2 ⟨v1, rfl, rfl, hn⟩
        clear cc
        go_wp2_with fail
        exact HK.out _ _ ⟨rfl, hn, rfl, fun h => nomatch h⟩
      · refine Lex.ob_eager rfl rfl (fun σ w1 hS hB hg => ⟨.agg #[.int .i64 bn, .int .i64 bd], rfl, fun w2 hS => ?_, rfl⟩)
        clear hg
        simp only [Lex.full, Act.put, List.setIfInBounds_toArray, List.set_cons_zero, List.set_cons_succ]
        have f0_0 := hS.1.cell0
        have f0_1 := hS.1.cell1
        have f1_0 := hS.2.1.cell0
        have f1_1 := hS.2.1.cell1
        have f2_0 := hS.2.2.cell0
        have f2_1 := hS.2.2.cell1
        clear hS
        go_simp
        all_goals with_reducible rfl
      · refine Lex.ob_step rfl rfl rfl (fun σ w1 hS hB hg K hK => ?_)
        have HK := Lib.hid hK
        clear hK
        have g2 : (σ 2) = .agg #[.int .i64 un, .int .i64 ud] := hg (2, 82) (by simp) (by kernel_rfl)
        have g3 : (σ 3) = .agg #[.int .i64 bn, .int .i64 bd] := hg (3, 83) (by simp) (by kernel_rfl)
        clear hg
        simp only [Lex.full, Act.put, List.setIfInBounds_toArray, List.set_cons_zero, List.set_cons_succ]
        simp only [g2, g3]
        have hw1 : Below w.heap.size w w1 := B5_.out.drew.trans (hB.mono B5_.out.size)
        have cc := ksub w1 hw1
        go_wp2_with fail
        refine cc.mono ?_
        rintro e w2 ⟨v1, rfl, rfl, hn⟩
        clear cc
        go_wp2_with fail
        exact HK.out _ _ ⟨rfl, hn, rfl, fun h => nomatch h⟩
      · refine Lex.ob_eager rfl rfl (fun σ w1 hS hB hg => ⟨.tuple #[.agg #[.int .i64 an, .int .i64 ad], .int .i64 0], rfl, fun w2 hS => ?_, rfl⟩)
        have g4 : (σ 4) = .tuple #[.agg #[.int .i64 an, .int .i64 ad], .int .i64 0] := hg (4, 84) (by simp) (by kernel_rfl)
        clear hg
        simp only [Lex.full, Act.put, List.setIfInBounds_toArray, List.set_cons_zero, List.set_cons_succ]
        have f0_0 := hS.1.cell0
        have f0_1 := hS.1.cell1
        have f1_0 := hS.2.1.cell0
        have f1_1 := hS.2.1.cell1
        have f2_0 := hS.2.2.cell0
        have f2_1 := hS.2.2.cell1
        clear hS
        simp only [g4]
        go_simp
        all_goals with_reducible rfl
      · refine Lex.ob_eager rfl rfl (fun σ w1 hS hB hg => ⟨.agg #[.int .i64 an, .int .i64 ad], rfl, fun w2 hS => ?_, rfl⟩)
        have g5 : (σ 5) = .tuple #[.agg #[.int .i64 an, .int .i64 ad], .int .i64 0] := hg (5, 79) (by simp) (by kernel_rfl)
        clear hg
        simp only [Lex.full, Act.put, List.setIfInBounds_toArray, List.set_cons_zero, List.set_cons_succ]
        have f0_0 := hS.1.cell0
        have f0_1 := hS.1.cell1
        have f1_0 := hS.2.1.cell0
        have f1_1 := hS.2.1.cell1
        have f2_0 := hS.2.2.cell0
        have f2_1 := hS.2.2.cell1
        clear hS
        simp only [g5]
        go_simp
        all_goals with_reducible rfl
      · refine Lex.ob_eager rfl rfl (fun σ w1 hS hB hg => ⟨.int .i64 0, rfl, fun w2 hS => ?_, rfl⟩)
        have g5 : (σ 5) = .tuple #[.agg #[.int .i64 an, .int .i64 ad], .int .i64 0] := hg (5, 79) (by simp) (by kernel_rfl)
        clear hg
        simp only [Lex.full, Act.put, List.setIfInBounds_toArray, List.set_cons_zero, List.set_cons_succ]
        have f0_0 := hS.1.cell0
        have f0_1 := hS.1.cell1
        have f1_0 := hS.2.1.cell0
        have f1_1 := hS.2.1.cell1
        have f2_0 := hS.2.2.cell0
        have f2_1 := hS.2.2.cell1
        clear hS
        simp only [g5]
        go_simp
        all_goals with_reducible rfl
      · refine Lex.ob_step rfl rfl rfl (fun σ w1 hS hB hg K hK => ?_)
        have HK := Lib.hid hK
        clear hK
        clear hg
        simp only [Lex.full, Act.put, List.setIfInBounds_toArray, List.set_cons_zero, List.set_cons_succ]
        go_wp2_with fail
        refine HK.out _ _ ⟨rfl, (Below.refl _ _).alloc (Nat.le_refl _) _, ⟨w1.heap.size, rfl, show V46.heap.size ≤ _ from hB.size, Two.newAt _ _ _ _ _ rfl⟩, fun _ => ?_⟩
        refine Lex.all_cons ?_ (Lex.all_cons ?_ (Lex.all_cons ?_ (Lex.all_cons ?_ (Lex.all_cons ?_ (Lex.all_cons ?_ (Lex.all_cons ?_ (Lex.all_cons ?_ (Lex.all_cons ?_ (Lex.all_nil)))))))))
        · intro u h; cases h
        · intro u h; cases h
        · intro u h; cases h
        · intro u h; cases h
        · intro u h; cases h
        · intro u h; cases h
        · intro u h; cases h
        · intro u h; cases h
        · rintro u _ ⟨B, rfl, _, hT⟩ he; have := hT.lt; have he : Value.pointer (some ⟨B, 0, none⟩) = .pointer (some ⟨w1.heap.size, 0, none⟩) := he; injection he with he; injection he with he; injection he with he; omega
    · intro σ V6_ hS hB hg hd
      have e0 : (σ 0) = .agg #[.int .i64 an, .int .i64 ad] := hg (0, 80) (by simp)
      have e1 : (σ 1) = .agg #[.int .i64 bn, .int .i64 bd] := hg (1, 81) (by simp)
      have e2 : (σ 2) = .agg #[.int .i64 un, .int .i64 ud] := hg (2, 82) (by simp)
      have e3 : (σ 3) = .agg #[.int .i64 bn, .int .i64 bd] := hg (3, 83) (by simp)
      have e4 : (σ 4) = .tuple #[.agg #[.int .i64 an, .int .i64 ad], .int .i64 0] := hg (4, 84) (by simp)
      have e5 : (σ 5) = .tuple #[.agg #[.int .i64 an, .int .i64 ad], .int .i64 0] := hg (5, 79) (by simp)
      have e6 : (σ 6) = .agg #[.int .i64 an, .int .i64 ad] := hg (6, 85) (by simp)
      have e7 : (σ 7) = .int .i64 0 := hg (7, 86) (by simp)
      have e8 : ∃ B, (σ 8) = .pointer (some ⟨B, 0, none⟩) ∧ V46.heap.size ≤ B ∧ Two V6_ B (.int .i64 0) (.int .i64 0) 28 := hg (8, 10) (by simp)
      clear hg hd
      simp only [Lex.full, Act.put, List.setIfInBounds_toArray, List.set_cons_zero, List.set_cons_succ]
      generalize σ 0 = s6_0 at *
      generalize σ 1 = s6_1 at *
      generalize σ 2 = s6_2 at *
      generalize σ 3 = s6_3 at *
      generalize σ 4 = s6_4 at *
      generalize σ 5 = s6_5 at *
      generalize σ 6 = s6_6 at *
      generalize σ 7 = s6_7 at *
      generalize σ 8 = s6_8 at *
      clear σ
      subst e0
      subst e1
      subst e2
      subst e3
      subst e4
      subst e5
      subst e6
      subst e7
      obtain ⟨B6_8, rfl, l6_8, T8⟩ := e8
      have HT6_8 := Lib.hid T8
      clear T8
      have HBm := Lib.hid (show Below w.heap.size w V6_ from B5_.out.drew.trans (hB.mono B5_.out.size))
      have HBb := Lib.hid (show Below V46.heap.size V46 V6_ from ⟨hB.os, hB.tape, hB.output, hB.size, hB.block⟩)
      have HSm := Lib.hid hS
      clear hB hS
      have l6_A := F5_A.out.lt
      have G6_A := Lib.hid HSm.out.1
      have l6_B := F5_B.out.lt
      have G6_B := Lib.hid HSm.out.2.1
      have l6_C := F5_C.out.lt
      have G6_C := Lib.hid HSm.out.2.2
      have lw6 := B5_.out.size
      clear HSm HBb F5_A F5_B F5_C B5_
      refine Lex.lex_do rfl ?_
      have r0 := HT6_8.out.cell0
      have g0 := HT6_8.out.free 0
      have r1 := HT6_8.out.cell1
      have g1 := HT6_8.out.free 1
      obtain ⟨V6_s1, hV1⟩ : ∃ V6_s1, V6_s1 = ((V6_.setCell ⟨B6_8, 0, none⟩ (.int .i64 an)).setCell ⟨B6_8, 1, none⟩ (.int .i64 ad)) := ⟨_, rfl⟩
      have HV1 := Lib.hid hV1
      clear hV1
      go_wp2_with fail
      rw [← HV1.out]
      clear r0 g0 r1 g1
      have G6_As := Lib.hid (show Two V6_s1 B1_6 (.int .i64 an) (.int .i64 ad) 28 by rw [HV1.out]; exact ((G6_A.out.setOther ⟨B6_8, 0, none⟩ _ (by dsimp only; omega)).setOther ⟨B6_8, 1, none⟩ _ (by dsimp only; omega)))
      have G6_Bs := Lib.hid (show Two V6_s1 B1_7 (.int .i64 bn) (.int .i64 bd) 28 by rw [HV1.out]; exact ((G6_B.out.setOther ⟨B6_8, 0, none⟩ _ (by dsimp only; omega)).setOther ⟨B6_8, 1, none⟩ _ (by dsimp only; omega)))
      have G6_Cs := Lib.hid (show Two V6_s1 B1_8 (.int .i64 cn) (.int .i64 cd) 28 by rw [HV1.out]; exact ((G6_C.out.setOther ⟨B6_8, 0, none⟩ _ (by dsimp only; omega)).setOther ⟨B6_8, 1, none⟩ _ (by dsimp only; omega)))
      have G6_D := Lib.hid (show Two V6_s1 B6_8 (.int .i64 an) (.int .i64 ad) 28 by rw [HV1.out]; exact (HT6_8.out.set0 _).set1 _)
      have HB6_1 := Lib.hid (show Below w.heap.size w V6_s1 by rw [HV1.out]; exact ((HBm.out.setCell (by dsimp only; omega) _).setCell (by dsimp only; omega) _))
      clear HV1 HT6_8 HBm G6_A G6_B G6_C
      refine Lex.lexQ_normal (fun _ => ⟨G6_As.out, G6_Bs.out, G6_Cs.out⟩) ?_
      refine Lex.lex_do rfl ?_
      go_wp2_with fail
      refine Lex.lexQ_normal (fun _ => ⟨G6_As.out, G6_Bs.out, G6_Cs.out⟩) ?_
      refine Lex.lex_nil ?_
      have q0_0 := G6_D.out.cell0
      have q0_1 := G6_D.out.cell1
      have q1_0 := G6_As.out.cell0
      have q1_1 := G6_As.out.cell1
      go_upto_region 9 with fail
      clear q0_0 q0_1 q1_0 q1_1
      clear G6_D
      by_cases hb0 : bn = 0
      · have kd := KZERO.out hb0
        clear KZERO KDIV
        subst hb0
        refine Lex.wp_region_mix (fun w' => Two w' B1_6 (.int .i64 an) (.int .i64 ad) 28 ∧ Two w' B1_7 (.int .i64 0) (.int .i64 bd) 28 ∧ Two w' B1_8 (.int .i64 cn) (.int .i64 cd) 28)
          [(0, 95), (1, 96), (2, 97), (3, 98), (4, 99), (5, 94), (6, 100), (7, 101), (8, 12)] (fun j => j == 0 || j == 1 || j == 3 || j == 5 || j == 6 || j == 7) (fun j => j == 8) [(9, false), (10, false)]
          (fun i v w' => match i with | 0 => v = .agg #[.int .i64 an, .int .i64 ad] | 1 => v = .agg #[.int .i64 0, .int .i64 bd] | 2 => v = .agg #[.int .i64 vn, .int .i64 vd] | 3 => v = .agg #[.int .i64 0, .int .i64 bd] | 4 => v = .tuple #[.agg #[.int .i64 0, .int .i64 0], .int .i64 4] | 5 => v = .tuple #[.agg #[.int .i64 0, .int .i64 0], .int .i64 4] | 6 => v = .agg #[.int .i64 0, .int .i64 0] | 7 => v = .int .i64 4 | 8 => ∃ B, v = .pointer (some ⟨B, 0, none⟩) ∧ V6_s1.heap.size ≤ B ∧ Two w' B (.int .i64 0) (.int .i64 0) 28 | _ => False)
          (by kernel_rfl) (by kernel_rfl) (by kernel_rfl) ⟨G6_As.out, G6_Bs.out, G6_Cs.out⟩ (fun w1 w2 hS hb => ⟨hS.1.below hb hS.1.lt, hS.2.1.below hb hS.2.1.lt, hS.2.2.below hb hS.2.2.lt⟩) ?_ ?_ ?_
        · refine Lex.all_cons ?_ (Lex.all_cons ?_ (Lex.all_cons ?_ (Lex.all_cons ?_ (Lex.all_cons ?_ (Lex.all_cons ?_ (Lex.all_cons ?_ (Lex.all_cons ?_ (Lex.all_cons ?_ (Lex.all_nil)))))))))
          · exact fun v w1 w2 h _ => h
          · exact fun v w1 w2 h _ => h
          · exact fun v w1 w2 h _ => h
          · exact fun v w1 w2 h _ => h
          · exact fun v w1 w2 h _ => h
          · exact fun v w1 w2 h _ => h
          · exact fun v w1 w2 h _ => h
          · exact fun v w1 w2 h _ => h
          · exact fun v w1 w2 ⟨B, hv, hl, hT⟩ hb => ⟨B, hv, hl, hT.below hb hT.lt⟩
        · refine Lex.all_cons ?_ (Lex.all_cons ?_ (Lex.all_cons ?_ (Lex.all_cons ?_ (Lex.all_cons ?_ (Lex.all_cons ?_ (Lex.all_cons ?_ (Lex.all_cons ?_ (Lex.all_cons ?_ (Lex.all_nil)))))))))
          · refine Lex.ob_eager rfl rfl (fun σ w1 hS hB hg => ⟨.agg #[.int .i64 an, .int .i64 ad], rfl, fun w2 hS => ?_, rfl⟩)
            clear hg
            simp only [Lex.full, Act.put, List.setIfInBounds_toArray, List.set_cons_zero, List.set_cons_succ]
            have f0_0 := hS.1.cell0
            have f0_1 := hS.1.cell1
            have f1_0 := hS.2.1.cell0
            have f1_1 := hS.2.1.cell1
            have f2_0 := hS.2.2.cell0
            have f2_1 := hS.2.2.cell1
            clear hS
            go_simp
            all_goals with_reducible rfl
          · refine Lex.ob_eager rfl rfl (fun σ w1 hS hB hg => ⟨.agg #[.int .i64 0, .int .i64 bd], rfl, fun w2 hS => ?_, rfl⟩)
            clear hg
            simp only [Lex.full, Act.put, List.setIfInBounds_toArray, List.set_cons_zero, List.set_cons_succ]
            have f0_0 := hS.1.cell0
            have f0_1 := hS.1.cell1
            have f1_0 := hS.2.1.cell0
            have f1_1 := hS.2.1.cell1
            have f2_0 := hS.2.2.cell0
            have f2_1 := hS.2.2.cell1
            clear hS
            go_simp
            all_goals with_reducible rfl
          · refine Lex.ob_step rfl rfl rfl (fun σ w1 hS hB hg K hK => ?_)
            have HK := Lib.hid hK
            clear hK
            have g0 : (σ 0) = .agg #[.int .i64 an, .int .i64 ad] := hg (0, 95) (by simp) (by kernel_rfl)
            have g1 : (σ 1) = .agg #[.int .i64 0, .int .i64 bd] := hg (1, 96) (by simp) (by kernel_rfl)
            clear hg
            simp only [Lex.full, Act.put, List.setIfInBounds_toArray, List.set_cons_zero, List.set_cons_succ]
            simp only [g0, g1]
            have hw1 : Below w.heap.size w w1 := HB6_1.out.drew.trans (hB.mono HB6_1.out.size)
            have cc := kmab w1 hw1
            go_wp2_with fail
            refine cc.mono ?_
            rintro e w2 ⟨v1, rfl, rfl, hn⟩
            clear cc
            go_wp2_with fail
            exact HK.out _ _ ⟨rfl, hn, rfl, fun h => nomatch h⟩
          · refine Lex.ob_eager rfl rfl (fun σ w1 hS hB hg => ⟨.agg #[.int .i64 0, .int .i64 bd], rfl, fun w2 hS => ?_, rfl⟩)
            clear hg
            simp only [Lex.full, Act.put, List.setIfInBounds_toArray, List.set_cons_zero, List.set_cons_succ]
            have f0_0 := hS.1.cell0
            have f0_1 := hS.1.cell1
            have f1_0 := hS.2.1.cell0
            have f1_1 := hS.2.1.cell1
            have f2_0 := hS.2.2.cell0
            have f2_1 := hS.2.2.cell1
            clear hS
            go_simp
            all_goals with_reducible rfl
          · refine Lex.ob_step rfl rfl rfl (fun σ w1 hS hB hg K hK => ?_)
            have HK := Lib.hid hK
            clear hK
            have g2 : (σ 2) = .agg #[.int .i64 vn, .int .i64 vd] := hg (2, 97) (by simp) (by kernel_rfl)
            have g3 : (σ 3) = .agg #[.int .i64 0, .int .i64 bd] := hg (3, 98) (by simp) (by kernel_rfl)
            clear hg
            simp only [Lex.full, Act.put, List.setIfInBounds_toArray, List.set_cons_zero, List.set_cons_succ]
            simp only [g2, g3]
            have hw1 : Below w.heap.size w w1 := HB6_1.out.drew.trans (hB.mono HB6_1.out.size)
            have cc := kd w1 hw1
            go_wp2_with fail
            refine cc.mono ?_
            rintro e w2 ⟨v1, rfl, rfl, hn⟩
            clear cc
            go_wp2_with fail
            exact HK.out _ _ ⟨rfl, hn, rfl, fun h => nomatch h⟩
          · refine Lex.ob_eager rfl rfl (fun σ w1 hS hB hg => ⟨.tuple #[.agg #[.int .i64 0, .int .i64 0], .int .i64 4], rfl, fun w2 hS => ?_, rfl⟩)
            have g4 : (σ 4) = .tuple #[.agg #[.int .i64 0, .int .i64 0], .int .i64 4] := hg (4, 99) (by simp) (by kernel_rfl)
            clear hg
            simp only [Lex.full, Act.put, List.setIfInBounds_toArray, List.set_cons_zero, List.set_cons_succ]
            have f0_0 := hS.1.cell0
            have f0_1 := hS.1.cell1
            have f1_0 := hS.2.1.cell0
            have f1_1 := hS.2.1.cell1
            have f2_0 := hS.2.2.cell0
            have f2_1 := hS.2.2.cell1
            clear hS
            simp only [g4]
            go_simp
            all_goals with_reducible rfl
          · refine Lex.ob_eager rfl rfl (fun σ w1 hS hB hg => ⟨.agg #[.int .i64 0, .int .i64 0], rfl, fun w2 hS => ?_, rfl⟩)
            have g5 : (σ 5) = .tuple #[.agg #[.int .i64 0, .int .i64 0], .int .i64 4] := hg (5, 94) (by simp) (by kernel_rfl)
            clear hg
            simp only [Lex.full, Act.put, List.setIfInBounds_toArray, List.set_cons_zero, List.set_cons_succ]
            have f0_0 := hS.1.cell0
            have f0_1 := hS.1.cell1
            have f1_0 := hS.2.1.cell0
            have f1_1 := hS.2.1.cell1
            have f2_0 := hS.2.2.cell0
            have f2_1 := hS.2.2.cell1
            clear hS
            simp only [g5]
            go_simp
            all_goals with_reducible rfl
          · refine Lex.ob_eager rfl rfl (fun σ w1 hS hB hg => ⟨.int .i64 4, rfl, fun w2 hS => ?_, rfl⟩)
            have g5 : (σ 5) = .tuple #[.agg #[.int .i64 0, .int .i64 0], .int .i64 4] := hg (5, 94) (by simp) (by kernel_rfl)
            clear hg
            simp only [Lex.full, Act.put, List.setIfInBounds_toArray, List.set_cons_zero, List.set_cons_succ]
            have f0_0 := hS.1.cell0
            have f0_1 := hS.1.cell1
            have f1_0 := hS.2.1.cell0
            have f1_1 := hS.2.1.cell1
            have f2_0 := hS.2.2.cell0
            have f2_1 := hS.2.2.cell1
            clear hS
            simp only [g5]
            go_simp
            all_goals with_reducible rfl
          · refine Lex.ob_step rfl rfl rfl (fun σ w1 hS hB hg K hK => ?_)
            have HK := Lib.hid hK
            clear hK
            clear hg
            simp only [Lex.full, Act.put, List.setIfInBounds_toArray, List.set_cons_zero, List.set_cons_succ]
            go_wp2_with fail
            refine HK.out _ _ ⟨rfl, (Below.refl _ _).alloc (Nat.le_refl _) _, ⟨w1.heap.size, rfl, show V6_s1.heap.size ≤ _ from hB.size, Two.newAt _ _ _ _ _ rfl⟩, fun _ => ?_⟩
            refine Lex.all_cons ?_ (Lex.all_cons ?_ (Lex.all_cons ?_ (Lex.all_cons ?_ (Lex.all_cons ?_ (Lex.all_cons ?_ (Lex.all_cons ?_ (Lex.all_cons ?_ (Lex.all_cons ?_ (Lex.all_nil)))))))))
            · intro u h; cases h
            · intro u h; cases h
            · intro u h; cases h
            · intro u h; cases h
            · intro u h; cases h
            · intro u h; cases h
            · intro u h; cases h
            · intro u h; cases h
            · rintro u _ ⟨B, rfl, _, hT⟩ he; have := hT.lt; have he : Value.pointer (some ⟨B, 0, none⟩) = .pointer (some ⟨w1.heap.size, 0, none⟩) := he; injection he with he; injection he with he; injection he with he; omega
        · intro σ V17_ hS hB hg hd
          have e0 : (σ 0) = .agg #[.int .i64 an, .int .i64 ad] := hg (0, 95) (by simp)
          have e1 : (σ 1) = .agg #[.int .i64 0, .int .i64 bd] := hg (1, 96) (by simp)
          have e2 : (σ 2) = .agg #[.int .i64 vn, .int .i64 vd] := hg (2, 97) (by simp)
          have e3 : (σ 3) = .agg #[.int .i64 0, .int .i64 bd] := hg (3, 98) (by simp)
          have e4 : (σ 4) = .tuple #[.agg #[.int .i64 0, .int .i64 0], .int .i64 4] := hg (4, 99) (by simp)
          have e5 : (σ 5) = .tuple #[.agg #[.int .i64 0, .int .i64 0], .int .i64 4] := hg (5, 94) (by simp)
          have e6 : (σ 6) = .agg #[.int .i64 0, .int .i64 0] := hg (6, 100) (by simp)
          have e7 : (σ 7) = .int .i64 4 := hg (7, 101) (by simp)
          have e8 : ∃ B, (σ 8) = .pointer (some ⟨B, 0, none⟩) ∧ V6_s1.heap.size ≤ B ∧ Two V17_ B (.int .i64 0) (.int .i64 0) 28 := hg (8, 12) (by simp)
          clear hg hd
          simp only [Lex.full, Act.put, List.setIfInBounds_toArray, List.set_cons_zero, List.set_cons_succ]
          generalize σ 0 = s17_0 at *
          generalize σ 1 = s17_1 at *
          generalize σ 2 = s17_2 at *
          generalize σ 3 = s17_3 at *
          generalize σ 4 = s17_4 at *
          generalize σ 5 = s17_5 at *
          generalize σ 6 = s17_6 at *
          generalize σ 7 = s17_7 at *
          generalize σ 8 = s17_8 at *
          clear σ
          subst e0
          subst e1
          subst e2
          subst e3
          subst e4
          subst e5
          subst e6
          subst e7
          obtain ⟨B17_8, rfl, l17_8, T8⟩ := e8
          have HT17_8 := Lib.hid T8
          clear T8
          have HBm := Lib.hid (show Below w.heap.size w V17_ from HB6_1.out.drew.trans (hB.mono HB6_1.out.size))
          have HBb := Lib.hid (show Below V6_s1.heap.size V6_s1 V17_ from ⟨hB.os, hB.tape, hB.output, hB.size, hB.block⟩)
          have HSm := Lib.hid hS
          clear hB hS
          have l17_A := G6_As.out.lt
          have G17_A := Lib.hid HSm.out.1
          have l17_B := G6_Bs.out.lt
          have G17_B := Lib.hid HSm.out.2.1
          have l17_C := G6_Cs.out.lt
          have G17_C := Lib.hid HSm.out.2.2
          have lw17 := HB6_1.out.size
          clear HSm HBb G6_As G6_Bs G6_Cs HB6_1
          refine Lex.lex_do rfl ?_
          have r0 := HT17_8.out.cell0
          have g0 := HT17_8.out.free 0
          have r1 := HT17_8.out.cell1
          have g1 := HT17_8.out.free 1
          obtain ⟨V17_s1, hV1⟩ : ∃ V17_s1, V17_s1 = ((V17_.setCell ⟨B17_8, 0, none⟩ (.int .i64 0)).setCell ⟨B17_8, 1, none⟩ (.int .i64 0)) := ⟨_, rfl⟩
          have HV1 := Lib.hid hV1
          clear hV1
          go_wp2_with fail
          rw [← HV1.out]
          clear r0 g0 r1 g1
          have G17_As := Lib.hid (show Two V17_s1 B1_6 (.int .i64 an) (.int .i64 ad) 28 by rw [HV1.out]; exact ((G17_A.out.setOther ⟨B17_8, 0, none⟩ _ (by dsimp only; omega)).setOther ⟨B17_8, 1, none⟩ _ (by dsimp only; omega)))
          have G17_Bs := Lib.hid (show Two V17_s1 B1_7 (.int .i64 0) (.int .i64 bd) 28 by rw [HV1.out]; exact ((G17_B.out.setOther ⟨B17_8, 0, none⟩ _ (by dsimp only; omega)).setOther ⟨B17_8, 1, none⟩ _ (by dsimp only; omega)))
          have G17_Cs := Lib.hid (show Two V17_s1 B1_8 (.int .i64 cn) (.int .i64 cd) 28 by rw [HV1.out]; exact ((G17_C.out.setOther ⟨B17_8, 0, none⟩ _ (by dsimp only; omega)).setOther ⟨B17_8, 1, none⟩ _ (by dsimp only; omega)))
          have G17_Q := Lib.hid (show Two V17_s1 B17_8 (.int .i64 0) (.int .i64 0) 28 by rw [HV1.out]; exact (HT17_8.out.set0 _).set1 _)
          have HB17_1 := Lib.hid (show Below w.heap.size w V17_s1 by rw [HV1.out]; exact ((HBm.out.setCell (by dsimp only; omega) _).setCell (by dsimp only; omega) _))
          clear HV1 HT17_8 HBm G17_A G17_B G17_C
          refine Lex.lexQ_normal (fun _ => ⟨G17_As.out, G17_Bs.out, G17_Cs.out⟩) ?_
          refine Lex.lex_do rfl ?_
          go_wp2_with fail
          refine Lex.lexQ_normal (fun _ => ⟨G17_As.out, G17_Bs.out, G17_Cs.out⟩) ?_
          refine Lex.lex_nil ?_
          have q0_0 := G17_Bs.out.cell0
          have q0_1 := G17_Bs.out.cell1
          have q1_0 := G17_As.out.cell0
          have q1_1 := G17_As.out.cell1
          have q2_0 := G17_Q.out.cell0
          have q2_1 := G17_Q.out.cell1
          have HE := Lib.hid HB17_1.out
          go_wp2
          go_ret
          exact ⟨rfl, HE.out⟩
      · have kd := KDIV.out hb0
        clear KZERO KDIV
        refine Lex.wp_region_mix (fun w' => Two w' B1_6 (.int .i64 an) (.int .i64 ad) 28 ∧ Two w' B1_7 (.int .i64 bn) (.int .i64 bd) 28 ∧ Two w' B1_8 (.int .i64 cn) (.int .i64 cd) 28)
          [(0, 95), (1, 96), (2, 97), (3, 98), (4, 99), (5, 94), (6, 100), (7, 101), (8, 12)] (fun j => j == 0 || j == 1 || j == 3 || j == 5 || j == 6 || j == 7) (fun j => j == 8) [(9, false), (10, false)]
          (fun i v w' => match i with | 0 => v = .agg #[.int .i64 an, .int .i64 ad] | 1 => v = .agg #[.int .i64 bn, .int .i64 bd] | 2 => v = .agg #[.int .i64 vn, .int .i64 vd] | 3 => v = .agg #[.int .i64 bn, .int .i64 bd] | 4 => v = .tuple #[.agg #[.int .i64 an, .int .i64 ad], .int .i64 0] | 5 => v = .tuple #[.agg #[.int .i64 an, .int .i64 ad], .int .i64 0] | 6 => v = .agg #[.int .i64 an, .int .i64 ad] | 7 => v = .int .i64 0 | 8 => ∃ B, v = .pointer (some ⟨B, 0, none⟩) ∧ V6_s1.heap.size ≤ B ∧ Two w' B (.int .i64 0) (.int .i64 0) 28 | _ => False)
          (by kernel_rfl) (by kernel_rfl) (by kernel_rfl) ⟨G6_As.out, G6_Bs.out, G6_Cs.out⟩ (fun w1 w2 hS hb => ⟨hS.1.below hb hS.1.lt, hS.2.1.below hb hS.2.1.lt, hS.2.2.below hb hS.2.2.lt⟩) ?_ ?_ ?_
        · refine Lex.all_cons ?_ (Lex.all_cons ?_ (Lex.all_cons ?_ (Lex.all_cons ?_ (Lex.all_cons ?_ (Lex.all_cons ?_ (Lex.all_cons ?_ (Lex.all_cons ?_ (Lex.all_cons ?_ (Lex.all_nil)))))))))
          · exact fun v w1 w2 h _ => h
          · exact fun v w1 w2 h _ => h
          · exact fun v w1 w2 h _ => h
          · exact fun v w1 w2 h _ => h
          · exact fun v w1 w2 h _ => h
          · exact fun v w1 w2 h _ => h
          · exact fun v w1 w2 h _ => h
          · exact fun v w1 w2 h _ => h
          · exact fun v w1 w2 ⟨B, hv, hl, hT⟩ hb => ⟨B, hv, hl, hT.below hb hT.lt⟩
        · refine Lex.all_cons ?_ (Lex.all_cons ?_ (Lex.all_cons ?_ (Lex.all_cons ?_ (Lex.all_cons ?_ (Lex.all_cons ?_ (Lex.all_cons ?_ (Lex.all_cons ?_ (Lex.all_cons ?_ (Lex.all_nil)))))))))
          · refine Lex.ob_eager rfl rfl (fun σ w1 hS hB hg => ⟨.agg #[.int .i64 an, .int .i64 ad], rfl, fun w2 hS => ?_, rfl⟩)
            clear hg
            simp only [Lex.full, Act.put, List.setIfInBounds_toArray, List.set_cons_zero, List.set_cons_succ]
            have f0_0 := hS.1.cell0
            have f0_1 := hS.1.cell1
            have f1_0 := hS.2.1.cell0
            have f1_1 := hS.2.1.cell1
            have f2_0 := hS.2.2.cell0
            have f2_1 := hS.2.2.cell1
            clear hS
            go_simp
            all_goals with_reducible rfl
          · refine Lex.ob_eager rfl rfl (fun σ w1 hS hB hg => ⟨.agg #[.int .i64 bn, .int .i64 bd], rfl, fun w2 hS => ?_, rfl⟩)
            clear hg
            simp only [Lex.full, Act.put, List.setIfInBounds_toArray, List.set_cons_zero, List.set_cons_succ]
            have f0_0 := hS.1.cell0
            have f0_1 := hS.1.cell1
            have f1_0 := hS.2.1.cell0
            have f1_1 := hS.2.1.cell1
            have f2_0 := hS.2.2.cell0
            have f2_1 := hS.2.2.cell1
            clear hS
            go_simp
            all_goals with_reducible rfl
          · refine Lex.ob_step rfl rfl rfl (fun σ w1 hS hB hg K hK => ?_)
            have HK := Lib.hid hK
            clear hK
            have g0 : (σ 0) = .agg #[.int .i64 an, .int .i64 ad] := hg (0, 95) (by simp) (by kernel_rfl)
            have g1 : (σ 1) = .agg #[.int .i64 bn, .int .i64 bd] := hg (1, 96) (by simp) (by kernel_rfl)
            clear hg
            simp only [Lex.full, Act.put, List.setIfInBounds_toArray, List.set_cons_zero, List.set_cons_succ]
            simp only [g0, g1]
            have hw1 : Below w.heap.size w w1 := HB6_1.out.drew.trans (hB.mono HB6_1.out.size)
            have cc := kmab w1 hw1
            go_wp2_with fail
            refine cc.mono ?_
            rintro e w2 ⟨v1, rfl, rfl, hn⟩
            clear cc
            go_wp2_with fail
            exact HK.out _ _ ⟨rfl, hn, rfl, fun h => nomatch h⟩
          · refine Lex.ob_eager rfl rfl (fun σ w1 hS hB hg => ⟨.agg #[.int .i64 bn, .int .i64 bd], rfl, fun w2 hS => ?_, rfl⟩)
            clear hg
            simp only [Lex.full, Act.put, List.setIfInBounds_toArray, List.set_cons_zero, List.set_cons_succ]
            have f0_0 := hS.1.cell0
            have f0_1 := hS.1.cell1
            have f1_0 := hS.2.1.cell0
            have f1_1 := hS.2.1.cell1
            have f2_0 := hS.2.2.cell0
            have f2_1 := hS.2.2.cell1
            clear hS
            go_simp
            all_goals with_reducible rfl
          · refine Lex.ob_step rfl rfl rfl (fun σ w1 hS hB hg K hK => ?_)
            have HK := Lib.hid hK
            clear hK
            have g2 : (σ 2) = .agg #[.int .i64 vn, .int .i64 vd] := hg (2, 97) (by simp) (by kernel_rfl)
            have g3 : (σ 3) = .agg #[.int .i64 bn, .int .i64 bd] := hg (3, 98) (by simp) (by kernel_rfl)
            clear hg
            simp only [Lex.full, Act.put, List.setIfInBounds_toArray, List.set_cons_zero, List.set_cons_succ]
            simp only [g2, g3]
            have hw1 : Below w.heap.size w w1 := HB6_1.out.drew.trans (hB.mono HB6_1.out.size)
            have cc := kd w1 hw1
            go_wp2_with fail
            refine cc.mono ?_
            rintro e w2 ⟨v1, rfl, rfl, hn⟩
            clear cc
            go_wp2_with fail
            exact HK.out _ _ ⟨rfl, hn, rfl, fun h => nomatch h⟩
          · refine Lex.ob_eager rfl rfl (fun σ w1 hS hB hg => ⟨.tuple #[.agg #[.int .i64 an, .int .i64 ad], .int .i64 0], rfl, fun w2 hS => ?_, rfl⟩)
            have g4 : (σ 4) = .tuple #[.agg #[.int .i64 an, .int .i64 ad], .int .i64 0] := hg (4, 99) (by simp) (by kernel_rfl)
            clear hg
            simp only [Lex.full, Act.put, List.setIfInBounds_toArray, List.set_cons_zero, List.set_cons_succ]
            have f0_0 := hS.1.cell0
            have f0_1 := hS.1.cell1
            have f1_0 := hS.2.1.cell0
            have f1_1 := hS.2.1.cell1
            have f2_0 := hS.2.2.cell0
            have f2_1 := hS.2.2.cell1
            clear hS
            simp only [g4]
            go_simp
            all_goals with_reducible rfl
          · refine Lex.ob_eager rfl rfl (fun σ w1 hS hB hg => ⟨.agg #[.int .i64 an, .int .i64 ad], rfl, fun w2 hS => ?_, rfl⟩)
            have g5 : (σ 5) = .tuple #[.agg #[.int .i64 an, .int .i64 ad], .int .i64 0] := hg (5, 94) (by simp) (by kernel_rfl)
            clear hg
            simp only [Lex.full, Act.put, List.setIfInBounds_toArray, List.set_cons_zero, List.set_cons_succ]
            have f0_0 := hS.1.cell0
            have f0_1 := hS.1.cell1
            have f1_0 := hS.2.1.cell0
            have f1_1 := hS.2.1.cell1
            have f2_0 := hS.2.2.cell0
            have f2_1 := hS.2.2.cell1
            clear hS
            simp only [g5]
            go_simp
            all_goals with_reducible rfl
          · refine Lex.ob_eager rfl rfl (fun σ w1 hS hB hg => ⟨.int .i64 0, rfl, fun w2 hS => ?_, rfl⟩)
            have g5 : (σ 5) = .tuple #[.agg #[.int .i64 an, .int .i64 ad], .int .i64 0] := hg (5, 94) (by simp) (by kernel_rfl)
            clear hg
            simp only [Lex.full, Act.put, List.setIfInBounds_toArray, List.set_cons_zero, List.set_cons_succ]
            have f0_0 := hS.1.cell0
            have f0_1 := hS.1.cell1
            have f1_0 := hS.2.1.cell0
            have f1_1 := hS.2.1.cell1
            have f2_0 := hS.2.2.cell0
            have f2_1 := hS.2.2.cell1
            clear hS
            simp only [g5]
            go_simp
            all_goals with_reducible rfl
          · refine Lex.ob_step rfl rfl rfl (fun σ w1 hS hB hg K hK => ?_)
            have HK := Lib.hid hK
            clear hK
            clear hg
            simp only [Lex.full, Act.put, List.setIfInBounds_toArray, List.set_cons_zero, List.set_cons_succ]
            go_wp2_with fail
            refine HK.out _ _ ⟨rfl, (Below.refl _ _).alloc (Nat.le_refl _) _, ⟨w1.heap.size, rfl, show V6_s1.heap.size ≤ _ from hB.size, Two.newAt _ _ _ _ _ rfl⟩, fun _ => ?_⟩
            refine Lex.all_cons ?_ (Lex.all_cons ?_ (Lex.all_cons ?_ (Lex.all_cons ?_ (Lex.all_cons ?_ (Lex.all_cons ?_ (Lex.all_cons ?_ (Lex.all_cons ?_ (Lex.all_cons ?_ (Lex.all_nil)))))))))
            · intro u h; cases h
            · intro u h; cases h
            · intro u h; cases h
            · intro u h; cases h
            · intro u h; cases h
            · intro u h; cases h
            · intro u h; cases h
            · intro u h; cases h
            · rintro u _ ⟨B, rfl, _, hT⟩ he; have := hT.lt; have he : Value.pointer (some ⟨B, 0, none⟩) = .pointer (some ⟨w1.heap.size, 0, none⟩) := he; injection he with he; injection he with he; injection he with he; omega
        · intro σ V27_ hS hB hg hd
          have e0 : (σ 0) = .agg #[.int .i64 an, .int .i64 ad] := hg (0, 95) (by simp)
          have e1 : (σ 1) = .agg #[.int .i64 bn, .int .i64 bd] := hg (1, 96) (by simp)
          have e2 : (σ 2) = .agg #[.int .i64 vn, .int .i64 vd] := hg (2, 97) (by simp)
          have e3 : (σ 3) = .agg #[.int .i64 bn, .int .i64 bd] := hg (3, 98) (by simp)
          have e4 : (σ 4) = .tuple #[.agg #[.int .i64 an, .int .i64 ad], .int .i64 0] := hg (4, 99) (by simp)
          have e5 : (σ 5) = .tuple #[.agg #[.int .i64 an, .int .i64 ad], .int .i64 0] := hg (5, 94) (by simp)
          have e6 : (σ 6) = .agg #[.int .i64 an, .int .i64 ad] := hg (6, 100) (by simp)
          have e7 : (σ 7) = .int .i64 0 := hg (7, 101) (by simp)
          have e8 : ∃ B, (σ 8) = .pointer (some ⟨B, 0, none⟩) ∧ V6_s1.heap.size ≤ B ∧ Two V27_ B (.int .i64 0) (.int .i64 0) 28 := hg (8, 12) (by simp)
          clear hg hd
          simp only [Lex.full, Act.put, List.setIfInBounds_toArray, List.set_cons_zero, List.set_cons_succ]
          generalize σ 0 = s27_0 at *
          generalize σ 1 = s27_1 at *
          generalize σ 2 = s27_2 at *
          generalize σ 3 = s27_3 at *
          generalize σ 4 = s27_4 at *
          generalize σ 5 = s27_5 at *
          generalize σ 6 = s27_6 at *
          generalize σ 7 = s27_7 at *
          generalize σ 8 = s27_8 at *
          clear σ
          subst e0
          subst e1
          subst e2
          subst e3
          subst e4
          subst e5
          subst e6
          subst e7
          obtain ⟨B27_8, rfl, l27_8, T8⟩ := e8
          have HT27_8 := Lib.hid T8
          clear T8
          have HBm := Lib.hid (show Below w.heap.size w V27_ from HB6_1.out.drew.trans (hB.mono HB6_1.out.size))
          have HBb := Lib.hid (show Below V6_s1.heap.size V6_s1 V27_ from ⟨hB.os, hB.tape, hB.output, hB.size, hB.block⟩)
          have HSm := Lib.hid hS
          clear hB hS
          have l27_A := G6_As.out.lt
          have G27_A := Lib.hid HSm.out.1
          have l27_B := G6_Bs.out.lt
          have G27_B := Lib.hid HSm.out.2.1
          have l27_C := G6_Cs.out.lt
          have G27_C := Lib.hid HSm.out.2.2
          have lw27 := HB6_1.out.size
          clear HSm HBb G6_As G6_Bs G6_Cs HB6_1
          refine Lex.lex_do rfl ?_
          have r0 := HT27_8.out.cell0
          have g0 := HT27_8.out.free 0
          have r1 := HT27_8.out.cell1
          have g1 := HT27_8.out.free 1
          obtain ⟨V27_s1, hV1⟩ : ∃ V27_s1, V27_s1 = ((V27_.setCell ⟨B27_8, 0, none⟩ (.int .i64 an)).setCell ⟨B27_8, 1, none⟩ (.int .i64 ad)) := ⟨_, rfl⟩
          have HV1 := Lib.hid hV1
          clear hV1
          go_wp2_with fail
          rw [← HV1.out]
          clear r0 g0 r1 g1
          have G27_As := Lib.hid (show Two V27_s1 B1_6 (.int .i64 an) (.int .i64 ad) 28 by rw [HV1.out]; exact ((G27_A.out.setOther ⟨B27_8, 0, none⟩ _ (by dsimp only; omega)).setOther ⟨B27_8, 1, none⟩ _ (by dsimp only; omega)))
          have G27_Bs := Lib.hid (show Two V27_s1 B1_7 (.int .i64 bn) (.int .i64 bd) 28 by rw [HV1.out]; exact ((G27_B.out.setOther ⟨B27_8, 0, none⟩ _ (by dsimp only; omega)).setOther ⟨B27_8, 1, none⟩ _ (by dsimp only; omega)))
          have G27_Cs := Lib.hid (show Two V27_s1 B1_8 (.int .i64 cn) (.int .i64 cd) 28 by rw [HV1.out]; exact ((G27_C.out.setOther ⟨B27_8, 0, none⟩ _ (by dsimp only; omega)).setOther ⟨B27_8, 1, none⟩ _ (by dsimp only; omega)))
          have G27_Q := Lib.hid (show Two V27_s1 B27_8 (.int .i64 an) (.int .i64 ad) 28 by rw [HV1.out]; exact (HT27_8.out.set0 _).set1 _)
          have HB27_1 := Lib.hid (show Below w.heap.size w V27_s1 by rw [HV1.out]; exact ((HBm.out.setCell (by dsimp only; omega) _).setCell (by dsimp only; omega) _))
          clear HV1 HT27_8 HBm G27_A G27_B G27_C
          refine Lex.lexQ_normal (fun _ => ⟨G27_As.out, G27_Bs.out, G27_Cs.out⟩) ?_
          refine Lex.lex_do rfl ?_
          go_wp2_with fail
          refine Lex.lexQ_normal (fun _ => ⟨G27_As.out, G27_Bs.out, G27_Cs.out⟩) ?_
          refine Lex.lex_nil ?_
          have q0_0 := G27_Bs.out.cell0
          have q0_1 := G27_Bs.out.cell1
          have q1_0 := G27_As.out.cell0
          have q1_1 := G27_As.out.cell1
          have q2_0 := G27_Q.out.cell0
          have q2_1 := G27_Q.out.cell1
          have HE := Lib.hid HB27_1.out
          go_wp2
          go_ret
          exact ⟨rfl, HE.out⟩

end Go.Proofs.YtklngjjokbhfpaaGreat
