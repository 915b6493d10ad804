/- The walk of GearOrder (printed by genea.py). -/
import Derived.Test.YtklngjjokbhfpaaEc
import Derived.Test.YtklngjjokbhfpaaLz
import Derived.Test.YtklngjjokbhfpaaVo
namespace Go.Proofs.Ytklngjjokbhfpaa
open Go.RowKit

theorem lives_z {w : World} : ∀ W (_ : Below w.heap.size w W), Calls Try.prog 15 #[] W (RetW (.bool true) W) := fun W _ => (lives_any W).mono fun _e _w' h => RetW.of h
theorem tame_w {w : World} (p q : Int) : ∀ W (_ : Below w.heap.size w W), Calls Try.prog 23 #[.agg #[.int .i64 p, .int .i64 q], .int .i64 1000000] W (RetTame 1000000 W) := fun W _ => tame_any p q 1000000 W (by omega) (by omega)
theorem i64_low {x : Int × Int} (h : FOk x) : I64 x.1 ∧ I64 x.2 := by
  obtain ⟨h1, h2, h3, _⟩ := h
  exact ⟨⟨by omega, by omega⟩, ⟨by omega, by omega⟩⟩
theorem gcmp_w {p q r s c : Int} (h1 : FOk (p, q)) (h2 : FOk (r, s)) (hc : sgn (p * s - r * q) = c) {w : World} : ∀ W (_ : Below w.heap.size w W), Calls Try.prog 24 #[.agg #[.int .i64 p, .int .i64 q], .agg #[.int .i64 r, .int .i64 s]] W (RetW (.tuple #[.int .i64 c, .int .i64 0]) W) := fun W _ => by
  subst hc
  exact (gcmp_ok p q r s W (i64_low h1).1 (i64_low h1).2 (i64_low h2).1 (i64_low h2).2 h1 h2).mono fun e w' h => RetW.of h
theorem gadd_w {p q r s n d : Int} (h1 : FOk (p, q)) (h2 : FOk (r, s)) (hc : lowV (p * s + r * q) (q * s) = .tuple #[.agg #[.int .i64 n, .int .i64 d], .int .i64 0]) {w : World} : ∀ W (_ : Below w.heap.size w W), Calls Try.prog 25 #[.agg #[.int .i64 p, .int .i64 q], .agg #[.int .i64 r, .int .i64 s]] W (RetW (.tuple #[.agg #[.int .i64 n, .int .i64 d], .int .i64 0]) W) := fun W _ => by
  rw [← hc]
  exact (gadd_ok p q r s W (i64_low h1).1 (i64_low h1).2 (i64_low h2).1 (i64_low h2).2 h1 h2).mono fun e w' h => RetW.of h

/-- The plain law: three small fractions. -/
structure Ordered (an ad bn bd cn cd ab ba bc ac sn sd tn td : Int) : Prop where
  hab : sgn (an * bd - bn * ad) = ab
  hba : sgn (bn * ad - an * bd) = ba
  hbc : sgn (bn * cd - cn * bd) = bc
  hac : sgn (an * cd - cn * ad) = ac
  hs : lowV (an * cd + cn * ad) (ad * cd) = .tuple #[.agg #[.int .i64 sn, .int .i64 sd], .int .i64 0]
  ht : lowV (bn * cd + cn * bd) (bd * cd) = .tuple #[.agg #[.int .i64 tn, .int .i64 td], .int .i64 0]
  sok : FOk (sn, sd)
  tok : FOk (tn, td)
  hst : sgn (sn * td - tn * sd) = ab
  wba : IntKind.i64.wrap (-ba) = ab
  cases : (ab = 0 ∧ an = bn ∧ ad = bd ∧ 0 < bc) ∨ (ab = 0 ∧ an = bn ∧ ad = bd ∧ bc ≤ 0 ∧ ac ≤ 0) ∨ (0 < ab ∧ (¬ an = bn ∨ ¬ ad = bd)) ∨ (ab < 0 ∧ (¬ an = bn ∨ ¬ ad = bd) ∧ 0 < bc) ∨ (ab < 0 ∧ (¬ an = bn ∨ ¬ ad = bd) ∧ bc ≤ 0 ∧ ac < 0)
theorem sgn_cases (x : Int) : (x < 0 ∧ sgn x = -1) ∨ (x = 0 ∧ sgn x = 0) ∨ (0 < x ∧ sgn x = 1) := by
  unfold sgn
  rcases Int.lt_trichotomy x 0 with h | h | h
  · left; exact ⟨h, by rw [if_pos h]⟩
  · right; left; subst h; exact ⟨rfl, rfl⟩
  · right; right; exact ⟨h, by rw [if_neg (by omega), if_neg (by omega)]⟩
theorem ordered (an ad bn bd cn cd : Int) (ha : FOk (an, ad)) (hb : FOk (bn, bd)) (hc : FOk (cn, cd)) (a1 : an.natAbs ≤ 1000000) (a2 : ad ≤ 1000000) (b1 : bn.natAbs ≤ 1000000) (b2 : bd ≤ 1000000) (c1 : cn.natAbs ≤ 1000000) (c2 : cd ≤ 1000000) :
    ∃ ab ba bc ac sn sd tn td, Ordered an ad bn bd cn cd ab ba bc ac sn sd tn td := by
  have pa : 1 ≤ ad := ha.1
  have pb : 1 ≤ bd := hb.1
  have pc : 1 ≤ cd := hc.1
  obtain ⟨s1, s2, s3, s4⟩ := addP_bound (a := (an, ad)) (b := (cn, cd)) (M := 1000000) (N := 1000000) (K := 1000000) (L := 1000000) pa pc a1 (by show ad.natAbs ≤ _; omega) c1 (by show cd.natAbs ≤ _; omega)
  obtain ⟨t1, t2, t3, t4⟩ := addP_bound (a := (bn, bd)) (b := (cn, cd)) (M := 1000000) (N := 1000000) (K := 1000000) (L := 1000000) pb pc b1 (by show bd.natAbs ≤ _; omega) c1 (by show cd.natAbs ≤ _; omega)
  obtain ⟨s5, _⟩ := lowP_out (p := an * cd + cn * ad) (q := ad * cd) (Int.mul_pos (by omega) (by omega))
  obtain ⟨t5, _⟩ := lowP_out (p := bn * cd + cn * bd) (q := bd * cd) (Int.mul_pos (by omega) (by omega))
  have es : lowV (an * cd + cn * ad) (ad * cd) = fracV (addP (an, ad) (cn, cd)).1 (addP (an, ad) (cn, cd)).2 := rfl
  have et : lowV (bn * cd + cn * bd) (bd * cd) = fracV (addP (bn, bd) (cn, cd)).1 (addP (bn, bd) (cn, cd)).2 := rfl
  have s5 : (addP (an, ad) (cn, cd)).1 * (ad * cd) = (an * cd + cn * ad) * (addP (an, ad) (cn, cd)).2 := s5
  have t5 : (addP (bn, bd) (cn, cd)).1 * (bd * cd) = (bn * cd + cn * bd) * (addP (bn, bd) (cn, cd)).2 := t5
  generalize addP (an, ad) (cn, cd) = s at *
  generalize addP (bn, bd) (cn, cd) = t at *
  refine ⟨sgn (an * bd - bn * ad), sgn (bn * ad - an * bd), sgn (bn * cd - cn * bd), sgn (an * cd - cn * ad), s.1, s.2, t.1, t.2, rfl, rfl, rfl, rfl, ?_, ?_, ⟨s1, by show s.2 ≤ _; omega, by show s.1.natAbs ≤ _; omega, s2⟩, ⟨t1, by show t.2 ≤ _; omega, by show t.1.natAbs ≤ _; omega, t2⟩, ?_, ?_, ?_⟩
  · rw [es]; exact fracV_in (by omega) (by omega)
  · rw [et]; exact fracV_in (by omega) (by omega)
  · have := low_cmp (p := an * cd + cn * ad) (q := ad * cd) (n := s.1) (d := s.2) (Int.mul_pos (by omega) (by omega)) (by omega) s5 t.1 t.2 (bn * cd + cn * bd) (bd * cd) (by omega) (Int.mul_pos (by omega) (by omega)) t5
    rw [this]
    have e1 : (an * cd + cn * ad) * (bd * cd) - (bn * cd + cn * bd) * (ad * cd) = (an * bd - bn * ad) * (cd * cd) := by grind
    rw [e1]
    have k := Int.mul_pos (show 0 < cd by omega) (show 0 < cd by omega)
    generalize cd * cd = k2 at *
    generalize an * bd - bn * ad = x at *
    have := low_cmp (p := x) (q := 1) (n := x * k2) (d := k2) (by omega) k (by omega) 0 1 0 1 (by omega) (by omega) rfl
    simpa using this
  · have h0 := sgn_cases (an * bd - bn * ad)
    have h1 := sgn_cases (bn * ad - an * bd)
    rw [IntWalk.i64_in _ (by omega)]
    omega
  · have h0 := sgn_cases (an * bd - bn * ad)
    have h2 := sgn_cases (bn * cd - cn * bd)
    have h3 := sgn_cases (an * cd - cn * ad)
    -- transitivity
    have key : (an * cd - cn * ad) * bd = (an * bd - bn * ad) * cd + (bn * cd - cn * bd) * ad := by grind
    have heq : an * bd - bn * ad = 0 → an = bn ∧ ad = bd := fun h => low_unique pa pb ha.2.2.2 hb.2.2.2 (by omega)
    have hne : an * bd - bn * ad ≠ 0 → (¬ an = bn ∨ ¬ ad = bd) := fun h => by
      by_cases g1 : an = bn
      · by_cases g2 : ad = bd
        · subst g1 g2
          exact absurd (by omega) h
        · exact .inr g2
      · exact .inl g1
    have hle : an * bd - bn * ad ≤ 0 → bn * cd - cn * bd ≤ 0 → an * cd - cn * ad ≤ 0 := fun g1 g2 => by
      have k1 : (an * bd - bn * ad) * cd ≤ 0 := Int.mul_nonpos_of_nonpos_of_nonneg g1 (by omega)
      have k2 : (bn * cd - cn * bd) * ad ≤ 0 := Int.mul_nonpos_of_nonpos_of_nonneg g2 (by omega)
      by_cases h : an * cd - cn * ad ≤ 0
      · exact h
      · have := Int.mul_pos (show 0 < an * cd - cn * ad by omega) (show 0 < bd by omega)
        omega
    have hlt : an * bd - bn * ad < 0 → bn * cd - cn * bd ≤ 0 → an * cd - cn * ad < 0 := fun g1 g2 => by
      have k1 : (an * bd - bn * ad) * cd < 0 := Int.mul_neg_of_neg_of_pos g1 (by omega)
      have k2 : (bn * cd - cn * bd) * ad ≤ 0 := Int.mul_nonpos_of_nonpos_of_nonneg g2 (by omega)
      by_cases h : an * cd - cn * ad < 0
      · exact h
      · have := Int.mul_nonneg (show 0 ≤ an * cd - cn * ad by omega) (show 0 ≤ bd by omega)
        omega
    clear key
    generalize an * bd - bn * ad = x at *
    generalize bn * cd - cn * bd = y at *
    generalize an * cd - cn * ad = z at *
    rcases h0 with ⟨h, e⟩ | ⟨h, e⟩ | ⟨h, e⟩
    · have := hne (by omega)
      by_cases hy : y ≤ 0
      · have := hlt h hy
        right; right; right; right
        refine ⟨by omega, ‹_›, by omega, by omega⟩
      · right; right; right; left
        exact ⟨by omega, ‹_›, by omega⟩
    · obtain ⟨g1, g2⟩ := heq h
      by_cases hy : y ≤ 0
      · have := hle (by omega) hy
        right; left
        exact ⟨e, g1, g2, by omega, by omega⟩
      · left
        exact ⟨e, g1, g2, by omega⟩
    · have := hne (by omega)
      right; right; left
      exact ⟨by omega, ‹_›⟩

set_option maxRecDepth 100000 in
set_option maxHeartbeats 6400000 in
theorem order_a (p q r s a b : Int) (w : World) :
    Calls Try.prog 10 #[.agg #[.int .i64 p, .int .i64 q], .agg #[.int .i64 r, .int .i64 s], .agg #[.int .i64 a, .int .i64 b]] w (RetV (.bool true) w) := by
  obtain ⟨W3, hW3⟩ : ∃ W3, W3 = (((w.alloc (.cells #[.int .i64 p, .int .i64 q] 23)).alloc (.cells #[.int .i64 r, .int .i64 s] 23)).alloc (.cells #[.int .i64 a, .int .i64 b] 23)) := ⟨_, rfl⟩
  have hB : Below w.heap.size w W3 := by rw [hW3]; exact ((((Below.refl _ _).alloc (Nat.le_refl _) _).alloc (by simp; try omega) _).alloc (by simp; try omega) _)
  have HBW := Lib.hid hB
  have HF := Lib.hid (show Two W3 (w.heap.size) (.int .i64 p) (.int .i64 q) 23 by rw [hW3]; exact (((((Two.newAt _ _ _ _ _ (by simp))).alloc _)).alloc _))
  have HG := Lib.hid (show Two W3 (w.heap.size + 1) (.int .i64 r) (.int .i64 s) 23 by rw [hW3]; exact (((Two.newAt _ _ _ _ _ (by simp))).alloc _))
  have HH := Lib.hid (show Two W3 (w.heap.size + 1 + 1) (.int .i64 a) (.int .i64 b) 23 by rw [hW3]; exact (Two.newAt _ _ _ _ _ (by simp)))
  clear hB
  go_enter Try.func10, Try.ntmps10
  go_upto_region 1 with fail
  rw [← hW3]
  clear hW3
  refine Lex.wp_region_mix (fun w' => Two w' w.heap.size (.int .i64 p) (.int .i64 q) 23 ∧ Two w' (w.heap.size + 1) (.int .i64 r) (.int .i64 s) 23 ∧ Two w' (w.heap.size + 1 + 1) (.int .i64 a) (.int .i64 b) 23)
    [(0, 24), (1, 25), (2, 26), (3, 27), (4, 28), (5, 29), (6, 7), (7, 8), (8, 9)] (fun j => j == 0 || j == 2 || j == 4) (fun j => j == 6 || j == 7 || j == 8) [(9, false), (10, false), (11, false)]
    (fun i v w' => match i with | 0 => v = .agg #[.int .i64 p, .int .i64 q] | 1 => ∃ n d : Int, v = .agg #[.int .i64 n, .int .i64 d] ∧ FOk (n, d) ∧ n.natAbs ≤ 1000000 ∧ d ≤ 1000000 | 2 => v = .agg #[.int .i64 r, .int .i64 s] | 3 => ∃ n d : Int, v = .agg #[.int .i64 n, .int .i64 d] ∧ FOk (n, d) ∧ n.natAbs ≤ 1000000 ∧ d ≤ 1000000 | 4 => v = .agg #[.int .i64 a, .int .i64 b] | 5 => ∃ n d : Int, v = .agg #[.int .i64 n, .int .i64 d] ∧ FOk (n, d) ∧ n.natAbs ≤ 1000000 ∧ d ≤ 1000000 | 6 => ∃ B, v = .pointer (some ⟨B, 0, none⟩) ∧ W3.heap.size ≤ B ∧ Two w' B (.int .i64 0) (.int .i64 0) 23 | 7 => ∃ B, v = .pointer (some ⟨B, 0, none⟩) ∧ W3.heap.size ≤ B ∧ Two w' B (.int .i64 0) (.int .i64 0) 23 | 8 => ∃ B, v = .pointer (some ⟨B, 0, none⟩) ∧ W3.heap.size ≤ B ∧ Two w' B (.int .i64 0) (.int .i64 0) 23 | _ => False)
    (by kernel_rfl) (by kernel_rfl) (by kernel_rfl) ⟨HF.out, HG.out, HH.out⟩ (fun w1 w2 hS hb => ⟨hS.1.below hb hS.1.lt, hS.2.1.below hb hS.2.1.lt, hS.2.2.below hb hS.2.2.lt⟩) ?_ ?_ ?_
  · refine Lex.all_cons ?_ (Lex.all_cons ?_ (Lex.all_cons ?_ (Lex.all_cons ?_ (Lex.all_cons ?_ (Lex.all_cons ?_ (Lex.all_cons ?_ (Lex.all_cons ?_ (Lex.all_cons ?_ (Lex.all_nil)))))))))
    · exact fun v w1 w2 h _ => h
    · exact fun v w1 w2 h _ => h
    · exact fun v w1 w2 h _ => h
    · exact fun v w1 w2 h _ => h
    · exact fun v w1 w2 h _ => h
    · exact fun v w1 w2 h _ => h
    · exact fun v w1 w2 ⟨B, hv, hl, hT⟩ hb => ⟨B, hv, hl, hT.below hb hT.lt⟩
    · exact fun v w1 w2 ⟨B, hv, hl, hT⟩ hb => ⟨B, hv, hl, hT.below hb hT.lt⟩
    · exact fun v w1 w2 ⟨B, hv, hl, hT⟩ hb => ⟨B, hv, hl, hT.below hb hT.lt⟩
  · refine Lex.all_cons ?_ (Lex.all_cons ?_ (Lex.all_cons ?_ (Lex.all_cons ?_ (Lex.all_cons ?_ (Lex.all_cons ?_ (Lex.all_cons ?_ (Lex.all_cons ?_ (Lex.all_cons ?_ (Lex.all_nil)))))))))
    · refine Lex.ob_eager rfl rfl (fun σ w1 hS hB hg => ⟨.agg #[.int .i64 p, .int .i64 q], rfl, fun w2 hS => ?_, rfl⟩)
      clear hg
      simp only [Lex.full, Act.put, List.setIfInBounds_toArray, List.set_cons_zero, List.set_cons_succ]
      have f0_0 := hS.1.cell0
      have f0_1 := hS.1.cell1
      have f1_0 := hS.2.1.cell0
      have f1_1 := hS.2.1.cell1
      have f2_0 := hS.2.2.cell0
      have f2_1 := hS.2.2.cell1
      clear hS
      go_simp
      all_goals with_reducible rfl
    · refine Lex.ob_step rfl rfl rfl (fun σ w1 hS hB hg => ?_)
      have g0 : σ 0 = .agg #[.int .i64 p, .int .i64 q] := hg (0, 24) (by simp) (by kernel_rfl)
      clear hg
      simp only [Lex.full, Act.put, List.setIfInBounds_toArray, List.set_cons_zero, List.set_cons_succ]
      simp only [g0]
      have hw1 : Below w.heap.size w w1 := HBW.out.drew.trans (hB.mono HBW.out.size)
      have cc := tame_w p q w1 hw1
      go_wp2_with fail
      refine cc.mono ?_
      rintro e w2 ⟨n, d, rfl, h1, h2, h3, hn⟩
      clear cc
      go_wp2_with fail
      exact ⟨rfl, hn, ⟨n, d, rfl, h1, h2, h3⟩, fun h => nomatch h⟩
    · refine Lex.ob_eager rfl rfl (fun σ w1 hS hB hg => ⟨.agg #[.int .i64 r, .int .i64 s], rfl, fun w2 hS => ?_, rfl⟩)
      clear hg
      simp only [Lex.full, Act.put, List.setIfInBounds_toArray, List.set_cons_zero, List.set_cons_succ]
      have f0_0 := hS.1.cell0
      have f0_1 := hS.1.cell1
      have f1_0 := hS.2.1.cell0
      have f1_1 := hS.2.1.cell1
      have f2_0 := hS.2.2.cell0
      have f2_1 := hS.2.2.cell1
      clear hS
      go_simp
      all_goals with_reducible rfl
    · refine Lex.ob_step rfl rfl rfl (fun σ w1 hS hB hg => ?_)
      have g2 : σ 2 = .agg #[.int .i64 r, .int .i64 s] := hg (2, 26) (by simp) (by kernel_rfl)
      clear hg
      simp only [Lex.full, Act.put, List.setIfInBounds_toArray, List.set_cons_zero, List.set_cons_succ]
      simp only [g2]
      have hw1 : Below w.heap.size w w1 := HBW.out.drew.trans (hB.mono HBW.out.size)
      have cc := tame_w r s w1 hw1
      go_wp2_with fail
      refine cc.mono ?_
      rintro e w2 ⟨n, d, rfl, h1, h2, h3, hn⟩
      clear cc
      go_wp2_with fail
      exact ⟨rfl, hn, ⟨n, d, rfl, h1, h2, h3⟩, fun h => nomatch h⟩
    · refine Lex.ob_eager rfl rfl (fun σ w1 hS hB hg => ⟨.agg #[.int .i64 a, .int .i64 b], rfl, fun w2 hS => ?_, rfl⟩)
      clear hg
      simp only [Lex.full, Act.put, List.setIfInBounds_toArray, List.set_cons_zero, List.set_cons_succ]
      have f0_0 := hS.1.cell0
      have f0_1 := hS.1.cell1
      have f1_0 := hS.2.1.cell0
      have f1_1 := hS.2.1.cell1
      have f2_0 := hS.2.2.cell0
      have f2_1 := hS.2.2.cell1
      clear hS
      go_simp
      all_goals with_reducible rfl
    · refine Lex.ob_step rfl rfl rfl (fun σ w1 hS hB hg => ?_)
      have g4 : σ 4 = .agg #[.int .i64 a, .int .i64 b] := hg (4, 28) (by simp) (by kernel_rfl)
      clear hg
      simp only [Lex.full, Act.put, List.setIfInBounds_toArray, List.set_cons_zero, List.set_cons_succ]
      simp only [g4]
      have hw1 : Below w.heap.size w w1 := HBW.out.drew.trans (hB.mono HBW.out.size)
      have cc := tame_w a b w1 hw1
      go_wp2_with fail
      refine cc.mono ?_
      rintro e w2 ⟨n, d, rfl, h1, h2, h3, hn⟩
      clear cc
      go_wp2_with fail
      exact ⟨rfl, hn, ⟨n, d, rfl, h1, h2, h3⟩, fun h => nomatch h⟩
    · refine Lex.ob_step rfl rfl rfl (fun σ w1 hS hB hg => ?_)
      clear hg
      simp only [Lex.full, Act.put, List.setIfInBounds_toArray, List.set_cons_zero, List.set_cons_succ]
      go_wp2_with fail
      refine ⟨rfl, (Below.refl _ _).alloc (Nat.le_refl _) _, ⟨w1.heap.size, rfl, show W3.heap.size ≤ _ from hB.size, Two.newAt _ _ _ _ _ rfl⟩, fun _ => ?_⟩
      refine Lex.all_cons ?_ (Lex.all_cons ?_ (Lex.all_cons ?_ (Lex.all_cons ?_ (Lex.all_cons ?_ (Lex.all_cons ?_ (Lex.all_cons ?_ (Lex.all_cons ?_ (Lex.all_cons ?_ (Lex.all_nil)))))))))
      · intro u h; cases h
      · intro u h; cases h
      · intro u h; cases h
      · intro u h; cases h
      · intro u h; cases h
      · intro u h; cases h
      · rintro u _ ⟨B, rfl, _, hT⟩ he; have := hT.lt; injection he with he; injection he with he; injection he with he; omega
      · rintro u _ ⟨B, rfl, _, hT⟩ he; have := hT.lt; injection he with he; injection he with he; injection he with he; omega
      · rintro u _ ⟨B, rfl, _, hT⟩ he; have := hT.lt; injection he with he; injection he with he; injection he with he; omega
    · refine Lex.ob_step rfl rfl rfl (fun σ w1 hS hB hg => ?_)
      clear hg
      simp only [Lex.full, Act.put, List.setIfInBounds_toArray, List.set_cons_zero, List.set_cons_succ]
      go_wp2_with fail
      refine ⟨rfl, (Below.refl _ _).alloc (Nat.le_refl _) _, ⟨w1.heap.size, rfl, show W3.heap.size ≤ _ from hB.size, Two.newAt _ _ _ _ _ rfl⟩, fun _ => ?_⟩
      refine Lex.all_cons ?_ (Lex.all_cons ?_ (Lex.all_cons ?_ (Lex.all_cons ?_ (Lex.all_cons ?_ (Lex.all_cons ?_ (Lex.all_cons ?_ (Lex.all_cons ?_ (Lex.all_cons ?_ (Lex.all_nil)))))))))
      · intro u h; cases h
      · intro u h; cases h
      · intro u h; cases h
      · intro u h; cases h
      · intro u h; cases h
      · intro u h; cases h
      · rintro u _ ⟨B, rfl, _, hT⟩ he; have := hT.lt; injection he with he; injection he with he; injection he with he; omega
      · rintro u _ ⟨B, rfl, _, hT⟩ he; have := hT.lt; injection he with he; injection he with he; injection he with he; omega
      · rintro u _ ⟨B, rfl, _, hT⟩ he; have := hT.lt; injection he with he; injection he with he; injection he with he; omega
    · refine Lex.ob_step rfl rfl rfl (fun σ w1 hS hB hg => ?_)
      clear hg
      simp only [Lex.full, Act.put, List.setIfInBounds_toArray, List.set_cons_zero, List.set_cons_succ]
      go_wp2_with fail
      refine ⟨rfl, (Below.refl _ _).alloc (Nat.le_refl _) _, ⟨w1.heap.size, rfl, show W3.heap.size ≤ _ from hB.size, Two.newAt _ _ _ _ _ rfl⟩, fun _ => ?_⟩
      refine Lex.all_cons ?_ (Lex.all_cons ?_ (Lex.all_cons ?_ (Lex.all_cons ?_ (Lex.all_cons ?_ (Lex.all_cons ?_ (Lex.all_cons ?_ (Lex.all_cons ?_ (Lex.all_cons ?_ (Lex.all_nil)))))))))
      · intro u h; cases h
      · intro u h; cases h
      · intro u h; cases h
      · intro u h; cases h
      · intro u h; cases h
      · intro u h; cases h
      · rintro u _ ⟨B, rfl, _, hT⟩ he; have := hT.lt; injection he with he; injection he with he; injection he with he; omega
      · rintro u _ ⟨B, rfl, _, hT⟩ he; have := hT.lt; injection he with he; injection he with he; injection he with he; omega
      · rintro u _ ⟨B, rfl, _, hT⟩ he; have := hT.lt; injection he with he; injection he with he; injection he with he; omega
  · intro σ V hS hB hg hd
    have e0 := hg (0, 24) (by simp)
    have e1 := hg (1, 25) (by simp)
    have e2 := hg (2, 26) (by simp)
    have e3 := hg (3, 27) (by simp)
    have e4 := hg (4, 28) (by simp)
    have e5 := hg (5, 29) (by simp)
    have e6 := hg (6, 7) (by simp)
    have e7 := hg (7, 8) (by simp)
    have e8 := hg (8, 9) (by simp)
    have n6_7 := hd (6, 7) (by simp) (7, 8) (by simp) (by decide) rfl rfl
    have n6_8 := hd (6, 7) (by simp) (8, 9) (by simp) (by decide) rfl rfl
    have n7_8 := hd (7, 8) (by simp) (8, 9) (by simp) (by decide) rfl rfl
    clear hg hd
    dsimp only at e0 e1 e2 e3 e4 e5 e6 e7 e8 n6_7 n6_8 n7_8
    simp only [Lex.full, Act.put, List.setIfInBounds_toArray, List.set_cons_zero, List.set_cons_succ]
    generalize σ 0 = s0 at *
    generalize σ 1 = s1 at *
    generalize σ 2 = s2 at *
    generalize σ 3 = s3 at *
    generalize σ 4 = s4 at *
    generalize σ 5 = s5 at *
    generalize σ 6 = s6 at *
    generalize σ 7 = s7 at *
    generalize σ 8 = s8 at *
    subst e0
    obtain ⟨an, ad, rfl, oka, a1, a2⟩ := e1
    subst e2
    obtain ⟨bn, bd, rfl, okb, b1, b2⟩ := e3
    subst e4
    obtain ⟨cn, cd, rfl, okc, c1, c2⟩ := e5
    obtain ⟨B6, rfl, l6, T6⟩ := e6
    have HT6 := Lib.hid T6
    clear T6
    obtain ⟨B7, rfl, l7, T7⟩ := e7
    have HT7 := Lib.hid T7
    clear T7
    obtain ⟨B8, rfl, l8, T8⟩ := e8
    have HT8 := Lib.hid T8
    clear T8
    replace n6_7 : B6 ≠ B7 := fun e => n6_7 (by rw [e])
    replace n6_8 : B6 ≠ B8 := fun e => n6_8 (by rw [e])
    replace n7_8 : B7 ≠ B8 := fun e => n7_8 (by rw [e])
    have HBm := Lib.hid (show Below w.heap.size w V from HBW.out.drew.trans (hB.mono HBW.out.size))
    have HSm := Lib.hid hS
    clear hB hS
    have lF := HF.out.lt
    have lG := HG.out.lt
    have lH := HH.out.lt
    have lW := HBW.out.size
    have XHF := Lib.hid HSm.out.1
    have XHG := Lib.hid HSm.out.2.1
    have XHH := Lib.hid HSm.out.2.2
    clear HSm HF HG HH
    refine Lex.lex_do rfl ?_
    have r0 := HT6.out.cell0
    have g0 := HT6.out.free 0
    have r1 := HT6.out.cell1
    have g1 := HT6.out.free 1
    obtain ⟨V1, hV1⟩ : ∃ V1, V1 = (V.setCell ⟨B6, 0, none⟩ (.int .i64 an)).setCell ⟨B6, 1, none⟩ (.int .i64 ad) := ⟨_, rfl⟩
    have HV1 := Lib.hid hV1
    clear hV1
    go_wp2_with fail
    rw [← HV1.out]
    clear r0 r1 g0 g1
    have YHF := Lib.hid (show Two V1 _ _ _ _ by rw [HV1.out]; exact (XHF.out.setOther ⟨B6, 0, none⟩ _ (by dsimp only; omega)).setOther ⟨B6, 1, none⟩ _ (by dsimp only; omega))
    have YHG := Lib.hid (show Two V1 _ _ _ _ by rw [HV1.out]; exact (XHG.out.setOther ⟨B6, 0, none⟩ _ (by dsimp only; omega)).setOther ⟨B6, 1, none⟩ _ (by dsimp only; omega))
    have YHH := Lib.hid (show Two V1 _ _ _ _ by rw [HV1.out]; exact (XHH.out.setOther ⟨B6, 0, none⟩ _ (by dsimp only; omega)).setOther ⟨B6, 1, none⟩ _ (by dsimp only; omega))
    have U6 := Lib.hid (show Two V1 _ _ _ _ by rw [HV1.out]; exact (HT6.out.set0 _).set1 _)
    have U7 := Lib.hid (show Two V1 _ _ _ _ by rw [HV1.out]; exact (HT7.out.setOther ⟨B6, 0, none⟩ _ (by dsimp only; omega)).setOther ⟨B6, 1, none⟩ _ (by dsimp only; omega))
    have U8 := Lib.hid (show Two V1 _ _ _ _ by rw [HV1.out]; exact (HT8.out.setOther ⟨B6, 0, none⟩ _ (by dsimp only; omega)).setOther ⟨B6, 1, none⟩ _ (by dsimp only; omega))
    have HB1 := Lib.hid (show Below w.heap.size w V1 by rw [HV1.out]; exact (HBm.out.setCell (by dsimp only; omega) _).setCell (by dsimp only; omega) _)
    clear HV1 HBm HT6 HT7 HT8 XHF XHG XHH
    have HT6 := U6
    have HT7 := U7
    have HT8 := U8
    have XHF := YHF
    have XHG := YHG
    have XHH := YHH
    clear U6 U7 U8 YHF YHG YHH
    refine Lex.lexQ_normal (fun _ => ⟨XHF.out, XHG.out, XHH.out⟩) ?_
    refine Lex.lex_do rfl ?_
    have r0 := HT7.out.cell0
    have g0 := HT7.out.free 0
    have r1 := HT7.out.cell1
    have g1 := HT7.out.free 1
    obtain ⟨V2, hV1⟩ : ∃ V2, V2 = (V1.setCell ⟨B7, 0, none⟩ (.int .i64 bn)).setCell ⟨B7, 1, none⟩ (.int .i64 bd) := ⟨_, rfl⟩
    have HV1 := Lib.hid hV1
    clear hV1
    go_wp2_with fail
    rw [← HV1.out]
    clear r0 r1 g0 g1
    have YHF := Lib.hid (show Two V2 _ _ _ _ by rw [HV1.out]; exact (XHF.out.setOther ⟨B7, 0, none⟩ _ (by dsimp only; omega)).setOther ⟨B7, 1, none⟩ _ (by dsimp only; omega))
    have YHG := Lib.hid (show Two V2 _ _ _ _ by rw [HV1.out]; exact (XHG.out.setOther ⟨B7, 0, none⟩ _ (by dsimp only; omega)).setOther ⟨B7, 1, none⟩ _ (by dsimp only; omega))
    have YHH := Lib.hid (show Two V2 _ _ _ _ by rw [HV1.out]; exact (XHH.out.setOther ⟨B7, 0, none⟩ _ (by dsimp only; omega)).setOther ⟨B7, 1, none⟩ _ (by dsimp only; omega))
    have U6 := Lib.hid (show Two V2 _ _ _ _ by rw [HV1.out]; exact (HT6.out.setOther ⟨B7, 0, none⟩ _ (by dsimp only; omega)).setOther ⟨B7, 1, none⟩ _ (by dsimp only; omega))
    have U7 := Lib.hid (show Two V2 _ _ _ _ by rw [HV1.out]; exact (HT7.out.set0 _).set1 _)
    have U8 := Lib.hid (show Two V2 _ _ _ _ by rw [HV1.out]; exact (HT8.out.setOther ⟨B7, 0, none⟩ _ (by dsimp only; omega)).setOther ⟨B7, 1, none⟩ _ (by dsimp only; omega))
    have HB2 := Lib.hid (show Below w.heap.size w V2 by rw [HV1.out]; exact (HB1.out.setCell (by dsimp only; omega) _).setCell (by dsimp only; omega) _)
    clear HV1 HB1 HT6 HT7 HT8 XHF XHG XHH
    have HT6 := U6
    have HT7 := U7
    have HT8 := U8
    have XHF := YHF
    have XHG := YHG
    have XHH := YHH
    clear U6 U7 U8 YHF YHG YHH
    refine Lex.lexQ_normal (fun _ => ⟨XHF.out, XHG.out, XHH.out⟩) ?_
    refine Lex.lex_do rfl ?_
    have r0 := HT8.out.cell0
    have g0 := HT8.out.free 0
    have r1 := HT8.out.cell1
    have g1 := HT8.out.free 1
    obtain ⟨V3, hV1⟩ : ∃ V3, V3 = (V2.setCell ⟨B8, 0, none⟩ (.int .i64 cn)).setCell ⟨B8, 1, none⟩ (.int .i64 cd) := ⟨_, rfl⟩
    have HV1 := Lib.hid hV1
    clear hV1
    go_wp2_with fail
    rw [← HV1.out]
    clear r0 r1 g0 g1
    have YHF := Lib.hid (show Two V3 _ _ _ _ by rw [HV1.out]; exact (XHF.out.setOther ⟨B8, 0, none⟩ _ (by dsimp only; omega)).setOther ⟨B8, 1, none⟩ _ (by dsimp only; omega))
    have YHG := Lib.hid (show Two V3 _ _ _ _ by rw [HV1.out]; exact (XHG.out.setOther ⟨B8, 0, none⟩ _ (by dsimp only; omega)).setOther ⟨B8, 1, none⟩ _ (by dsimp only; omega))
    have YHH := Lib.hid (show Two V3 _ _ _ _ by rw [HV1.out]; exact (XHH.out.setOther ⟨B8, 0, none⟩ _ (by dsimp only; omega)).setOther ⟨B8, 1, none⟩ _ (by dsimp only; omega))
    have U6 := Lib.hid (show Two V3 _ _ _ _ by rw [HV1.out]; exact (HT6.out.setOther ⟨B8, 0, none⟩ _ (by dsimp only; omega)).setOther ⟨B8, 1, none⟩ _ (by dsimp only; omega))
    have U7 := Lib.hid (show Two V3 _ _ _ _ by rw [HV1.out]; exact (HT7.out.setOther ⟨B8, 0, none⟩ _ (by dsimp only; omega)).setOther ⟨B8, 1, none⟩ _ (by dsimp only; omega))
    have U8 := Lib.hid (show Two V3 _ _ _ _ by rw [HV1.out]; exact (HT8.out.set0 _).set1 _)
    have HB3 := Lib.hid (show Below w.heap.size w V3 by rw [HV1.out]; exact (HB2.out.setCell (by dsimp only; omega) _).setCell (by dsimp only; omega) _)
    clear HV1 HB2 HT6 HT7 HT8 XHF XHG XHH
    have HT6 := U6
    have HT7 := U7
    have HT8 := U8
    have XHF := YHF
    have XHG := YHG
    have XHH := YHH
    clear U6 U7 U8 YHF YHG YHH
    refine Lex.lexQ_normal (fun _ => ⟨XHF.out, XHG.out, XHH.out⟩) ?_
    refine Lex.lex_nil ?_
    clear XHF XHG XHH lF lG lH n6_7 n6_8 n7_8 HBW
    obtain ⟨ab, ba, bc, ac, sn, sd, tn, td, HO⟩ := ordered an ad bn bd cn cd oka okb okc a1 a2 b1 b2 c1 c2
    have cab := gcmp_w oka okb HO.hab (w := w)
    have cba := gcmp_w okb oka HO.hba (w := w)
    have cbc := gcmp_w okb okc HO.hbc (w := w)
    have cac := gcmp_w oka okc HO.hac (w := w)
    have cs := gadd_w oka okc HO.hs (w := w)
    have ct := gadd_w okb okc HO.ht (w := w)
    have cst := gcmp_w HO.sok HO.tok HO.hst (w := w)
    have cl := lives_z (w := w)
    have wba := HO.wba
    have HC := Lib.hid HO.cases
    clear HO oka okb okc a1 a2 b1 b2 c1 c2
    have k0_0 := HT6.out.cell0
    have k0_1 := HT6.out.cell1
    have k1_0 := HT7.out.cell0
    have k1_1 := HT7.out.cell1
    have k2_0 := HT8.out.cell0
    have k2_1 := HT8.out.cell1
    have hb10 := Below.refl V3.heap.size V3
    have hw10 := HB3.out
    have cc := cab V3 hw10
    go_wp2_with fail
    refine cc.mono ?_
    rintro e V11 ⟨v11, rfl, hm11, hn11⟩
    have hb11 := hb10.trans (hn11.mono hb10.size)
    have hw11 := hw10.trans (hn11.mono hw10.size)
    subst hm11
    clear cc hb10 hw10 hn11
    clear k0_0 k0_1 k1_0 k1_1 k2_0 k2_1
    have k0_0 := (HT6.out.below hb11 HT6.out.lt).cell0
    have k0_1 := (HT6.out.below hb11 HT6.out.lt).cell1
    have k1_0 := (HT7.out.below hb11 HT7.out.lt).cell0
    have k1_1 := (HT7.out.below hb11 HT7.out.lt).cell1
    have k2_0 := (HT8.out.below hb11 HT8.out.lt).cell0
    have k2_1 := (HT8.out.below hb11 HT8.out.lt).cell1
    have cc := cba V11 hw11
    go_wp2_with fail
    refine cc.mono ?_
    rintro e V12 ⟨v12, rfl, hm12, hn12⟩
    have hb12 := hb11.trans (hn12.mono hb11.size)
    have hw12 := hw11.trans (hn12.mono hw11.size)
    subst hm12
    clear cc hb11 hw11 hn12
    clear k0_0 k0_1 k1_0 k1_1 k2_0 k2_1
    have k0_0 := (HT6.out.below hb12 HT6.out.lt).cell0
    have k0_1 := (HT6.out.below hb12 HT6.out.lt).cell1
    have k1_0 := (HT7.out.below hb12 HT7.out.lt).cell0
    have k1_1 := (HT7.out.below hb12 HT7.out.lt).cell1
    have k2_0 := (HT8.out.below hb12 HT8.out.lt).cell0
    have k2_1 := (HT8.out.below hb12 HT8.out.lt).cell1
    have cc := cbc V12 hw12
    go_wp2_with fail
    refine cc.mono ?_
    rintro e V13 ⟨v13, rfl, hm13, hn13⟩
    have hb13 := hb12.trans (hn13.mono hb12.size)
    have hw13 := hw12.trans (hn13.mono hw12.size)
    subst hm13
    clear cc hb12 hw12 hn13
    clear k0_0 k0_1 k1_0 k1_1 k2_0 k2_1
    have k0_0 := (HT6.out.below hb13 HT6.out.lt).cell0
    have k0_1 := (HT6.out.below hb13 HT6.out.lt).cell1
    have k1_0 := (HT7.out.below hb13 HT7.out.lt).cell0
    have k1_1 := (HT7.out.below hb13 HT7.out.lt).cell1
    have k2_0 := (HT8.out.below hb13 HT8.out.lt).cell0
    have k2_1 := (HT8.out.below hb13 HT8.out.lt).cell1
    have cc := cac V13 hw13
    go_wp2_with fail
    refine cc.mono ?_
    rintro e V14 ⟨v14, rfl, hm14, hn14⟩
    have hb14 := hb13.trans (hn14.mono hb13.size)
    have hw14 := hw13.trans (hn14.mono hw13.size)
    subst hm14
    clear cc hb13 hw13 hn14
    clear k0_0 k0_1 k1_0 k1_1 k2_0 k2_1
    have k0_0 := (HT6.out.below hb14 HT6.out.lt).cell0
    have k0_1 := (HT6.out.below hb14 HT6.out.lt).cell1
    have k1_0 := (HT7.out.below hb14 HT7.out.lt).cell0
    have k1_1 := (HT7.out.below hb14 HT7.out.lt).cell1
    have k2_0 := (HT8.out.below hb14 HT8.out.lt).cell0
    have k2_1 := (HT8.out.below hb14 HT8.out.lt).cell1
    have XA := Lib.hid (HT6.out.below hb14 HT6.out.lt)
    have XB := Lib.hid (HT7.out.below hb14 HT7.out.lt)
    have XC := Lib.hid (HT8.out.below hb14 HT8.out.lt)
    have XW := Lib.hid hw14
    clear hb14 hw14 HT6 HT7 HT8 HB3 cab cba cbc cac
    rcases HC.out with ⟨d1, d2, d3, d4⟩ | ⟨d1, d2, d3, d4, d5⟩ | ⟨d1, d2 | d2⟩ | ⟨d1, d2 | d2, d3⟩ | ⟨d1, d2 | d2, d3, d4⟩
    all_goals clear HC
    all_goals try subst d2
    all_goals try subst d3
    all_goals
      have k0 := XA.out.cell0
      have k1 := XA.out.cell1
      have k2 := XB.out.cell0
      have k3 := XB.out.cell1
      have cc := cl _ XW.out
      go_wp2_with fail
      refine cc.mono ?_
      rintro e V15 ⟨v15, rfl, rfl, hn15⟩
      have YW := Lib.hid (XW.out.trans (hn15.mono XW.out.size))
      have k0 := (XA.out.below hn15 XA.out.lt).cell0
      have k1 := (XA.out.below hn15 XA.out.lt).cell1
      have k2 := (XB.out.below hn15 XB.out.lt).cell0
      have k3 := (XB.out.below hn15 XB.out.lt).cell1
      have k4 := (XC.out.below hn15 XC.out.lt).cell0
      have k5 := (XC.out.below hn15 XC.out.lt).cell1
      have XB2 := Lib.hid (XB.out.below hn15 XB.out.lt)
      have XC2 := Lib.hid (XC.out.below hn15 XC.out.lt)
      clear cc hn15 XA XB XC XW
      have cc := cs _ YW.out
      go_wp2_with fail
    all_goals
      refine cc.mono ?_
      rintro e V16 ⟨v16, rfl, rfl, hn16⟩
      obtain ⟨SB, hSB⟩ : ∃ SB, SB = V16.heap.size := ⟨_, rfl⟩
      obtain ⟨U, hU⟩ : ∃ U, U = V16.alloc (.cells #[.int .i64 sn, .int .i64 sd] 23) := ⟨_, rfl⟩
      have HU := Lib.hid (show U = V16.alloc _ ∧ SB = V16.heap.size from ⟨hU, hSB⟩)
      clear hU hSB
      go_upto_region 11 with fail
      rw [← HU.out.2, ← HU.out.1]
      have hb16 : Below V15.heap.size V15 U := by rw [HU.out.1]; exact hn16.alloc hn16.size _
      have HS := Lib.hid (show Two U SB (.int .i64 sn) (.int .i64 sd) 23 by rw [HU.out.1, HU.out.2]; exact Two.newAt _ _ _ _ _ rfl)
      clear cc k0 k1 k2 k3 k4 k5 HU
      have ZB := Lib.hid (XB2.out.below hb16 XB2.out.lt)
      have ZC := Lib.hid (XC2.out.below hb16 XC2.out.lt)
      have ZW := Lib.hid (YW.out.trans (hb16.mono YW.out.size))
      clear hb16 hn16 XB2 XC2 YW
      have k2 := ZB.out.cell0
      have k3 := ZB.out.cell1
      have k4 := ZC.out.cell0
      have k5 := ZC.out.cell1
      have cc := ct _ ZW.out
      go_wp2_with fail
      refine cc.mono ?_
      rintro e V17 ⟨v17, rfl, rfl, hn17⟩
      obtain ⟨TB, hTB⟩ : ∃ TB, TB = V17.heap.size := ⟨_, rfl⟩
      obtain ⟨U2, hU⟩ : ∃ U2, U2 = V17.alloc (.cells #[.int .i64 tn, .int .i64 td] 23) := ⟨_, rfl⟩
      have HU := Lib.hid (show U2 = V17.alloc _ ∧ TB = V17.heap.size from ⟨hU, hTB⟩)
      clear hU hTB
      go_upto_region 14 with fail
      rw [← HU.out.2, ← HU.out.1]
      have hb17 : Below U.heap.size U U2 := by rw [HU.out.1]; exact hn17.alloc hn17.size _
      have HT := Lib.hid (show Two U2 TB (.int .i64 tn) (.int .i64 td) 23 by rw [HU.out.1, HU.out.2]; exact Two.newAt _ _ _ _ _ rfl)
      have ZS := Lib.hid (HS.out.below hb17 HS.out.lt)
      have WW := Lib.hid (ZW.out.trans (hb17.mono ZW.out.size))
      clear cc k2 k3 k4 k5 HU HS hb17 ZW ZB ZC
      have k0 := ZS.out.cell0
      have k1 := ZS.out.cell1
      have k2 := HT.out.cell0
      have k3 := HT.out.cell1
      have cc := cst _ WW.out
      go_wp2_with fail
      refine cc.mono ?_
      rintro e V18 ⟨v18, rfl, rfl, hn18⟩
      have HE := Lib.hid (WW.out.trans (hn18.mono WW.out.size))
      clear cc hn18
      go_wp2
      go_ret
      exact ⟨rfl, HE.out⟩

end Go.Proofs.Ytklngjjokbhfpaa
