/- gear's nearer (printed by genee.py). -/
import Derived.Test.YtklngjjokbhfpaaEd
import Derived.Test.YtklngjjokbhfpaaPkCk
import Derived.Test.YtklngjjokbhfpaaLz
import Derived.Test.YtklngjjokbhfpaaPkDh
namespace Go.Proofs.Ytklngjjokbhfpaa
open Go.RowKit

/-- Which of two fractions is nearer to p/q: below 0 the first one. -/
def nearS (p q an ad bn bd : Int) : Int := sgn (((an * q - p * ad).natAbs : Int) * (bd * q) - ((bn * q - p * bd).natAbs : Int) * (ad * q))
def nearR (p q an ad bn bd : Int) : Int × Int := if nearS p q an ad bn bd < 0 ∨ nearS p q an ad bn bd = 0 ∧ ad < bd ∨ nearS p q an ad bn bd = 0 ∧ ad = bd ∧ an < bn then (an, ad) else (bn, bd)

theorem Four.setOther {w : World} {B : Nat} {a b c d : Value} {t : TypeId} (h : Four w B a b c d t) (p : Addr) (x : Value) (hp : B ≠ p.block) : Four (w.setCell p x) B a b c d t := (Below.heap_setCell w p x B hp).trans h
theorem Four.keep4 {w : World} {B R : Nat} {a b c d u0 u1 u2 u3 : Value} {t : TypeId} (h : Four w B a b c d t) (hp : B ≠ R) : Four ((((w.setCell ⟨R, 0, none⟩ u0).setCell ⟨R, 1, none⟩ u1).setCell ⟨R, 2, none⟩ u2).setCell ⟨R, 3, none⟩ u3) B a b c d t :=
  (((h.setOther _ _ hp).setOther _ _ hp).setOther _ _ hp).setOther _ _ hp
theorem Four.set4 {w : World} {B : Nat} {a b c d : Value} {t : TypeId} (h : Four w B a b c d t) (u0 u1 u2 u3 : Value) : Four ((((w.setCell ⟨B, 0, none⟩ u0).setCell ⟨B, 1, none⟩ u1).setCell ⟨B, 2, none⟩ u2).setCell ⟨B, 3, none⟩ u3) B u0 u1 u2 u3 t := by
  unfold Four World.setCell at *
  simp only [Array.getElem?_modify, if_true, h]
  rfl
theorem IsQ.stored4 {w : World} {v : Value} {p q : Int} {N R : Nat} {u0 u1 u2 u3 : Value} {t : TypeId} (h : IsQ w v p q N) (hR : Four w R (.bool false) (.slice none 0 0) (.bool false) (.slice none 0 0) t) : IsQ ((((w.setCell ⟨R, 0, none⟩ u0).setCell ⟨R, 1, none⟩ u1).setCell ⟨R, 2, none⟩ u2).setCell ⟨R, 3, none⟩ u3) v p q N := by
  obtain ⟨na, a, nb, b, rfl, h1, h2⟩ := h
  exact ⟨na, a, nb, b, rfl, h1.storedF hR, h2.storedF hR⟩

set_option maxRecDepth 100000 in
set_option maxHeartbeats 3200000 in
theorem nearer_any (p q an ad bn bd : Int) (w : World) (h0 : I64 p) (h1 : I64 q) (h2 : I64 an) (h3 : I64 ad) (h4 : I64 bn) (h5 : I64 bd) (had : ad ≠ 0) :
    Calls Try.prog 46 #[.agg #[.int .i64 p, .int .i64 q], .agg #[.int .i64 an, .int .i64 ad], .agg #[.int .i64 bn, .int .i64 bd]] w (RetV (.agg #[.int .i64 (nearR p q an ad bn bd).1, .int .i64 (nearR p q an ad bn bd).2]) w) := by
  have ca : ∀ W (_ : Below w.heap.size w W), Calls Try.prog 50 #[.agg #[.int .i64 an, .int .i64 ad]] W (RetQ an ad 2 W) := fun W _ => from_any an ad W h2 h3
  have cb : ∀ W (_ : Below w.heap.size w W), Calls Try.prog 50 #[.agg #[.int .i64 bn, .int .i64 bd]] W (RetQ bn bd 2 W) := fun W _ => from_any bn bd W h4 h5
  have cx : ∀ W (_ : Below w.heap.size w W), Calls Try.prog 50 #[.agg #[.int .i64 p, .int .i64 q]] W (RetQ p q 2 W) := fun W _ => from_any p q W h0 h1
  have csa : ∀ W (_ : Below w.heap.size w W) u v, IsQ W u an ad 2 → IsQ W v p q 2 → Calls Try.prog 70 #[u, v] W (RetQ (an * q - p * ad) (ad * q) 5 W) := fun W _ u v g1 g2 => qsub_any g1 g2 (by omega) (by omega)
  have csb : ∀ W (_ : Below w.heap.size w W) u v, IsQ W u bn bd 2 → IsQ W v p q 2 → Calls Try.prog 70 #[u, v] W (RetQ (bn * q - p * bd) (bd * q) 5 W) := fun W _ u v g1 g2 => qsub_any g1 g2 (by omega) (by omega)
  have cxa : ∀ W (_ : Below w.heap.size w W) u, IsQ W u (an * q - p * ad) (ad * q) 5 → Calls Try.prog 71 #[u] W (RetQ ((an * q - p * ad).natAbs : Int) (ad * q) 5 W) := fun W _ u g => qabs_any g (by omega)
  have cxb : ∀ W (_ : Below w.heap.size w W) u, IsQ W u (bn * q - p * bd) (bd * q) 5 → Calls Try.prog 71 #[u] W (RetQ ((bn * q - p * bd).natAbs : Int) (bd * q) 5 W) := fun W _ u g => qabs_any g (by omega)
  have cc : ∀ W (_ : Below w.heap.size w W) u v, IsQ W u ((an * q - p * ad).natAbs : Int) (ad * q) 5 → IsQ W v ((bn * q - p * bd).natAbs : Int) (bd * q) 5 → Calls Try.prog 58 #[u, v] W (RetW (.int .i64 (nearS p q an ad bn bd)) W) := fun W _ u v g1 g2 => (rcmp_any g1 g2 (by omega) (by omega)).mono fun e w' h => RetW.of h
  obtain ⟨sg, hsg⟩ : ∃ sg, sg = nearS p q an ad bn bd := ⟨_, rfl⟩
  obtain ⟨yn, hyn⟩ : ∃ yn, yn = (nearR p q an ad bn bd).1 := ⟨_, rfl⟩
  obtain ⟨yd, hyd⟩ : ∃ yd, yd = (nearR p q an ad bn bd).2 := ⟨_, rfl⟩
  have HC := Lib.hid (show (sg < 0 ∧ yn = an ∧ yd = ad) ∨ (sg = 0 ∧ ad < bd ∧ yn = an ∧ yd = ad) ∨ (sg = 0 ∧ ¬ ad < bd ∧ ad = bd ∧ an < bn ∧ yn = an ∧ yd = ad) ∨ (sg = 0 ∧ ¬ ad < bd ∧ ad = bd ∧ ¬ an < bn ∧ yn = bn ∧ yd = bd) ∨ (sg = 0 ∧ ¬ ad < bd ∧ ¬ ad = bd ∧ yn = bn ∧ yd = bd) ∨ (0 < sg ∧ yn = bn ∧ yd = bd) by
    rw [hyn, hyd]
    unfold nearR
    rw [← hsg]
    by_cases c : sg < 0 ∨ sg = 0 ∧ ad < bd ∨ sg = 0 ∧ ad = bd ∧ an < bn
    · simp only [if_pos c, and_true]; clear hyn hyd hsg; omega
    · simp only [if_neg c, and_true]; clear hyn hyd hsg; omega)
  rw [← hsg] at cc
  rw [← hyn, ← hyd]
  have had0 : (ad == 0) = false := by simpa using had
  clear h0 h1 h2 h3 h4 h5 had hsg hyn hyd
  obtain ⟨W3, hW3⟩ : ∃ W3, W3 = ((((w.alloc (.cells #[.int .i64 p, .int .i64 q] 23)).alloc (.cells #[.int .i64 an, .int .i64 ad] 23)).alloc (.cells #[.int .i64 bn, .int .i64 bd] 23)).alloc (.cells #[.int .i64 0, .int .i64 0] 23)) := ⟨_, rfl⟩
  have hB : Below w.heap.size w W3 := by rw [hW3]; exact (((((Below.refl _ _).alloc (Nat.le_refl _) _).alloc (by simp; try omega) _).alloc (by simp; try omega) _).alloc (by simp; try omega) _)
  have HBW := Lib.hid hB
  have HF := Lib.hid (show Two W3 (w.heap.size) (.int .i64 p) (.int .i64 q) 23 by rw [hW3]; exact (((((((Two.newAt _ _ _ _ _ (by simp))).alloc _)).alloc _)).alloc _))
  have HG := Lib.hid (show Two W3 (w.heap.size + 1) (.int .i64 an) (.int .i64 ad) 23 by rw [hW3]; exact (((((Two.newAt _ _ _ _ _ (by simp))).alloc _)).alloc _))
  have HH := Lib.hid (show Two W3 (w.heap.size + 1 + 1) (.int .i64 bn) (.int .i64 bd) 23 by rw [hW3]; exact (((Two.newAt _ _ _ _ _ (by simp))).alloc _))
  have HR := Lib.hid (show Two W3 (w.heap.size + 1 + 1 + 1) (.int .i64 0) (.int .i64 0) 23 by rw [hW3]; exact (Two.newAt _ _ _ _ _ (by simp)))
  clear hB
  go_enter Try.func46, Try.ntmps46
  go_upto_region 1 with fail
  rw [← hW3]
  clear hW3
  have k0 := HG.out.cell1
  go_upto_region 3 with fail
  clear k0
  refine Lex.wp_region_mix (fun w' => Two w' w.heap.size (.int .i64 p) (.int .i64 q) 23 ∧ Two w' (w.heap.size + 1) (.int .i64 an) (.int .i64 ad) 23 ∧ Two w' (w.heap.size + 1 + 1) (.int .i64 bn) (.int .i64 bd) 23)
    [(0, 14), (1, 15), (2, 16), (3, 17), (4, 18), (5, 19), (6, 7)] (fun j => j == 0 || j == 2) (fun j => j == 6) [(7, false)]
    (fun i v w' => match i with | 0 => v = .agg #[.int .i64 an, .int .i64 ad] | 1 => IsQ w' v an ad 2 | 2 => v = .agg #[.int .i64 p, .int .i64 q] | 3 => IsQ w' v p q 2 | 4 => IsQ w' v (an * q - p * ad) (ad * q) 5 | 5 => IsQ w' v ((an * q - p * ad).natAbs : Int) (ad * q) 5 | 6 => ∃ B, v = .pointer (some ⟨B, 0, none⟩) ∧ W3.heap.size ≤ B ∧ Four w' B (.bool false) (.slice none 0 0) (.bool false) (.slice none 0 0) 85 | _ => False)
    (by kernel_rfl) (by kernel_rfl) (by kernel_rfl) ⟨HF.out, HG.out, HH.out⟩ (fun w1 w2 hS hb => ⟨hS.1.below hb hS.1.lt, hS.2.1.below hb hS.2.1.lt, hS.2.2.below hb hS.2.2.lt⟩) ?_ ?_ ?_
  · refine Lex.all_cons ?_ (Lex.all_cons ?_ (Lex.all_cons ?_ (Lex.all_cons ?_ (Lex.all_cons ?_ (Lex.all_cons ?_ (Lex.all_cons ?_ (Lex.all_nil)))))))
    · exact fun v w1 w2 h _ => h
    · exact fun v w1 w2 h hb => IsQ.below h hb
    · exact fun v w1 w2 h _ => h
    · exact fun v w1 w2 h hb => IsQ.below h hb
    · exact fun v w1 w2 h hb => IsQ.below h hb
    · exact fun v w1 w2 h hb => IsQ.below h hb
    · exact fun v w1 w2 ⟨B, hv, hl, hT⟩ hb => ⟨B, hv, hl, hT.below hb hT.lt⟩
  · refine Lex.all_cons ?_ (Lex.all_cons ?_ (Lex.all_cons ?_ (Lex.all_cons ?_ (Lex.all_cons ?_ (Lex.all_cons ?_ (Lex.all_cons ?_ (Lex.all_nil)))))))
    · refine Lex.ob_eager rfl rfl (fun σ w1 hS hB hg => ⟨.agg #[.int .i64 an, .int .i64 ad], rfl, fun w2 hS => ?_, rfl⟩)
      clear hg
      simp only [Lex.full, Act.put, List.setIfInBounds_toArray, List.set_cons_zero, List.set_cons_succ]
      have f0_0 := hS.1.cell0
      have f0_1 := hS.1.cell1
      have f1_0 := hS.2.1.cell0
      have f1_1 := hS.2.1.cell1
      have f2_0 := hS.2.2.cell0
      have f2_1 := hS.2.2.cell1
      clear hS
      go_simp
      all_goals with_reducible rfl
    · refine Lex.ob_step rfl rfl rfl (fun σ w1 hS hB hg K hK => ?_)
      have HK := Lib.hid hK
      clear hK
      have g0 : (σ 0) = .agg #[.int .i64 an, .int .i64 ad] := hg (0, 14) (by simp) (by kernel_rfl)
      clear hg
      simp only [Lex.full, Act.put, List.setIfInBounds_toArray, List.set_cons_zero, List.set_cons_succ]
      simp only [g0]
      have hw1 : Below w.heap.size w w1 := HBW.out.drew.trans (hB.mono HBW.out.size)
      have cc := ca w1 hw1
      go_wp2_with fail
      refine cc.mono ?_
      rintro e w2 ⟨v1, rfl, hm, hn⟩
      clear cc
      go_wp2_with fail
      exact HK.out _ _ ⟨rfl, hn, hm, fun h => nomatch h⟩
    · refine Lex.ob_eager rfl rfl (fun σ w1 hS hB hg => ⟨.agg #[.int .i64 p, .int .i64 q], rfl, fun w2 hS => ?_, rfl⟩)
      clear hg
      simp only [Lex.full, Act.put, List.setIfInBounds_toArray, List.set_cons_zero, List.set_cons_succ]
      have f0_0 := hS.1.cell0
      have f0_1 := hS.1.cell1
      have f1_0 := hS.2.1.cell0
      have f1_1 := hS.2.1.cell1
      have f2_0 := hS.2.2.cell0
      have f2_1 := hS.2.2.cell1
      clear hS
      go_simp
      all_goals with_reducible rfl
    · refine Lex.ob_step rfl rfl rfl (fun σ w1 hS hB hg K hK => ?_)
      have HK := Lib.hid hK
      clear hK
      have g2 : (σ 2) = .agg #[.int .i64 p, .int .i64 q] := hg (2, 16) (by simp) (by kernel_rfl)
      clear hg
      simp only [Lex.full, Act.put, List.setIfInBounds_toArray, List.set_cons_zero, List.set_cons_succ]
      simp only [g2]
      have hw1 : Below w.heap.size w w1 := HBW.out.drew.trans (hB.mono HBW.out.size)
      have cc := cx w1 hw1
      go_wp2_with fail
      refine cc.mono ?_
      rintro e w2 ⟨v1, rfl, hm, hn⟩
      clear cc
      go_wp2_with fail
      exact HK.out _ _ ⟨rfl, hn, hm, fun h => nomatch h⟩
    · refine Lex.ob_step rfl rfl rfl (fun σ w1 hS hB hg K hK => ?_)
      have HK := Lib.hid hK
      clear hK
      have g1 : IsQ w1 (σ 1) an ad 2 := hg (1, 15) (by simp) (by kernel_rfl)
      have g3 : IsQ w1 (σ 3) p q 2 := hg (3, 17) (by simp) (by kernel_rfl)
      clear hg
      simp only [Lex.full, Act.put, List.setIfInBounds_toArray, List.set_cons_zero, List.set_cons_succ]
      have hw1 : Below w.heap.size w w1 := HBW.out.drew.trans (hB.mono HBW.out.size)
      have cc := csa w1 hw1 _ _ g1 g3
      go_wp2_with fail
      refine cc.mono ?_
      rintro e w2 ⟨v1, rfl, hm, hn⟩
      clear cc
      go_wp2_with fail
      exact HK.out _ _ ⟨rfl, hn, hm, fun h => nomatch h⟩
    · refine Lex.ob_step rfl rfl rfl (fun σ w1 hS hB hg K hK => ?_)
      have HK := Lib.hid hK
      clear hK
      have g4 : IsQ w1 (σ 4) (an * q - p * ad) (ad * q) 5 := hg (4, 18) (by simp) (by kernel_rfl)
      clear hg
      simp only [Lex.full, Act.put, List.setIfInBounds_toArray, List.set_cons_zero, List.set_cons_succ]
      have hw1 : Below w.heap.size w w1 := HBW.out.drew.trans (hB.mono HBW.out.size)
      have cc := cxa w1 hw1 _ g4
      go_wp2_with fail
      refine cc.mono ?_
      rintro e w2 ⟨v1, rfl, hm, hn⟩
      clear cc
      go_wp2_with fail
      exact HK.out _ _ ⟨rfl, hn, hm, fun h => nomatch h⟩
    · refine Lex.ob_step rfl rfl rfl (fun σ w1 hS hB hg K hK => ?_)
      have HK := Lib.hid hK
      clear hK
      clear hg
      simp only [Lex.full, Act.put, List.setIfInBounds_toArray, List.set_cons_zero, List.set_cons_succ]
      go_wp2_with fail
      refine HK.out _ _ ⟨rfl, (Below.refl _ _).alloc (Nat.le_refl _) _, ⟨w1.heap.size, rfl, show W3.heap.size ≤ _ from hB.size, Four.newAt _ _ _ _ _ _ _ rfl⟩, fun _ => ?_⟩
      refine Lex.all_cons ?_ (Lex.all_cons ?_ (Lex.all_cons ?_ (Lex.all_cons ?_ (Lex.all_cons ?_ (Lex.all_cons ?_ (Lex.all_cons ?_ (Lex.all_nil)))))))
      · intro u h; cases h
      · intro u h; cases h
      · intro u h; cases h
      · intro u h; cases h
      · intro u h; cases h
      · intro u h; cases h
      · rintro u _ ⟨B, rfl, _, hT⟩ he; have := hT.lt; have he : Value.pointer (some ⟨B, 0, none⟩) = .pointer (some ⟨w1.heap.size, 0, none⟩) := he; injection he with he; injection he with he; injection he with he; omega
  · intro σ V hS hB hg hd
    have e0 : (σ 0) = .agg #[.int .i64 an, .int .i64 ad] := hg (0, 14) (by simp)
    have e1 : IsQ V (σ 1) an ad 2 := hg (1, 15) (by simp)
    have e2 : (σ 2) = .agg #[.int .i64 p, .int .i64 q] := hg (2, 16) (by simp)
    have e3 : IsQ V (σ 3) p q 2 := hg (3, 17) (by simp)
    have e4 : IsQ V (σ 4) (an * q - p * ad) (ad * q) 5 := hg (4, 18) (by simp)
    have e5 : IsQ V (σ 5) ((an * q - p * ad).natAbs : Int) (ad * q) 5 := hg (5, 19) (by simp)
    have e6 : ∃ B, (σ 6) = .pointer (some ⟨B, 0, none⟩) ∧ W3.heap.size ≤ B ∧ Four V B (.bool false) (.slice none 0 0) (.bool false) (.slice none 0 0) 85 := hg (6, 7) (by simp)
    clear hg hd
    simp only [Lex.full, Act.put, List.setIfInBounds_toArray, List.set_cons_zero, List.set_cons_succ]
    generalize σ 0 = sa0 at *
    generalize σ 1 = sa1 at *
    generalize σ 2 = sa2 at *
    generalize σ 3 = sa3 at *
    generalize σ 4 = sa4 at *
    generalize σ 5 = sa5 at *
    generalize σ 6 = sa6 at *
    clear σ
    subst e0
    clear e1
    subst e2
    clear e3
    clear e4
    obtain ⟨pa5, Aa5, na5, ca5, pa6, Aa6, na6, ca6, rfl, hPa, hQa⟩ := (e5).open2
    obtain ⟨Ba6, rfl, la6, T6⟩ := e6
    have HTa6 := Lib.hid T6
    clear T6
    have HBm := Lib.hid (show Below w.heap.size w V from HBW.out.drew.trans (hB.mono HBW.out.size))
    have HBb := Lib.hid (show Below W3.heap.size W3 V from ⟨hB.os, hB.tape, hB.output, hB.size, hB.block⟩)
    have HSm := Lib.hid hS
    clear hB hS
    have lW := HBW.out.size
    refine Lex.lex_do rfl ?_
    have r0 := HTa6.out.cell0
    have g0 := HTa6.out.free 0
    have r1 := HTa6.out.cell1
    have g1 := HTa6.out.free 1
    have r2 := HTa6.out.cell2
    have g2 := HTa6.out.free 2
    have r3 := HTa6.out.cell3
    have g3 := HTa6.out.free 3
    obtain ⟨V1, hV1⟩ : ∃ V1, V1 = ((((V.setCell ⟨Ba6, 0, none⟩ (.bool pa5.1)).setCell ⟨Ba6, 1, none⟩ (.slice Aa5 na5 ca5)).setCell ⟨Ba6, 2, none⟩ (.bool pa6.1)).setCell ⟨Ba6, 3, none⟩ (.slice Aa6 na6 ca6)) := ⟨_, rfl⟩
    have HV1 := Lib.hid hV1
    clear hV1
    have HPa := Lib.hid hPa
    have HQa := Lib.hid hQa
    clear hPa hQa
    go_wp2_with fail
    rw [← HV1.out]
    clear r0 r1 r2 r3 g0 g1 g2 g3
    have lF := HF.out.lt
    have lG := HG.out.lt
    have lH := HH.out.lt
    have lR := HR.out.lt
    have YF := Lib.hid (show Two V1 _ _ _ _ by rw [HV1.out]; exact ((((HSm.out.1.setOther ⟨Ba6, 0, none⟩ _ (by dsimp only; omega)).setOther ⟨Ba6, 1, none⟩ _ (by dsimp only; omega)).setOther ⟨Ba6, 2, none⟩ _ (by dsimp only; omega)).setOther ⟨Ba6, 3, none⟩ _ (by dsimp only; omega)))
    have YG := Lib.hid (show Two V1 _ _ _ _ by rw [HV1.out]; exact ((((HSm.out.2.1.setOther ⟨Ba6, 0, none⟩ _ (by dsimp only; omega)).setOther ⟨Ba6, 1, none⟩ _ (by dsimp only; omega)).setOther ⟨Ba6, 2, none⟩ _ (by dsimp only; omega)).setOther ⟨Ba6, 3, none⟩ _ (by dsimp only; omega)))
    have YH := Lib.hid (show Two V1 _ _ _ _ by rw [HV1.out]; exact ((((HSm.out.2.2.setOther ⟨Ba6, 0, none⟩ _ (by dsimp only; omega)).setOther ⟨Ba6, 1, none⟩ _ (by dsimp only; omega)).setOther ⟨Ba6, 2, none⟩ _ (by dsimp only; omega)).setOther ⟨Ba6, 3, none⟩ _ (by dsimp only; omega)))
    have YR := Lib.hid (show Two V1 _ _ _ _ by rw [HV1.out]; exact (((((HR.out.below HBb.out HR.out.lt).setOther ⟨Ba6, 0, none⟩ _ (by dsimp only; omega)).setOther ⟨Ba6, 1, none⟩ _ (by dsimp only; omega)).setOther ⟨Ba6, 2, none⟩ _ (by dsimp only; omega)).setOther ⟨Ba6, 3, none⟩ _ (by dsimp only; omega)))
    have HIa := Lib.hid (show IsQ V1 (.agg #[.bool pa5.1, .slice Aa5 na5 ca5, .bool pa6.1, .slice Aa6 na6 ca6]) _ _ _ by rw [HV1.out]; exact ⟨pa5.1, _, pa6.1, _, rfl, HPa.out.storedF HTa6.out, HQa.out.storedF HTa6.out⟩)
    have HNa := Lib.hid (show Four V1 Ba6 (.bool pa5.1) (.slice Aa5 na5 ca5) (.bool pa6.1) (.slice Aa6 na6 ca6) 85 by rw [HV1.out]; exact HTa6.out.set4 _ _ _ _)
    have HBV1 := Lib.hid (show Below w.heap.size w V1 by rw [HV1.out]; exact (((HBm.out.setCell (by dsimp only; omega) _).setCell (by dsimp only; omega) _).setCell (by dsimp only; omega) _).setCell (by dsimp only; omega) _)
    refine Lex.lexQ_normal (fun _ => ⟨YF.out, YG.out, YH.out⟩) ?_
    refine Lex.lex_nil ?_
    clear HV1 HBm HBb HSm HTa6 HPa HQa HF HG HH HR HBW ca csa cxa
    go_upto_region 4 with fail
    refine Lex.wp_region_mix (fun w' => Two w' w.heap.size (.int .i64 p) (.int .i64 q) 23 ∧ Two w' (w.heap.size + 1) (.int .i64 an) (.int .i64 ad) 23 ∧ Two w' (w.heap.size + 1 + 1) (.int .i64 bn) (.int .i64 bd) 23)
      [(0, 20), (1, 21), (2, 22), (3, 23), (4, 24), (5, 25), (6, 8)] (fun j => j == 0 || j == 2) (fun j => j == 6) [(7, false)]
      (fun i v w' => match i with | 0 => v = .agg #[.int .i64 bn, .int .i64 bd] | 1 => IsQ w' v bn bd 2 | 2 => v = .agg #[.int .i64 p, .int .i64 q] | 3 => IsQ w' v p q 2 | 4 => IsQ w' v (bn * q - p * bd) (bd * q) 5 | 5 => IsQ w' v ((bn * q - p * bd).natAbs : Int) (bd * q) 5 | 6 => ∃ B, v = .pointer (some ⟨B, 0, none⟩) ∧ V1.heap.size ≤ B ∧ Four w' B (.bool false) (.slice none 0 0) (.bool false) (.slice none 0 0) 85 | _ => False)
      (by kernel_rfl) (by kernel_rfl) (by kernel_rfl) ⟨YF.out, YG.out, YH.out⟩ (fun w1 w2 hS hb => ⟨hS.1.below hb hS.1.lt, hS.2.1.below hb hS.2.1.lt, hS.2.2.below hb hS.2.2.lt⟩) ?_ ?_ ?_
    · refine Lex.all_cons ?_ (Lex.all_cons ?_ (Lex.all_cons ?_ (Lex.all_cons ?_ (Lex.all_cons ?_ (Lex.all_cons ?_ (Lex.all_cons ?_ (Lex.all_nil)))))))
      · exact fun v w1 w2 h _ => h
      · exact fun v w1 w2 h hb => IsQ.below h hb
      · exact fun v w1 w2 h _ => h
      · exact fun v w1 w2 h hb => IsQ.below h hb
      · exact fun v w1 w2 h hb => IsQ.below h hb
      · exact fun v w1 w2 h hb => IsQ.below h hb
      · exact fun v w1 w2 ⟨B, hv, hl, hT⟩ hb => ⟨B, hv, hl, hT.below hb hT.lt⟩
    · refine Lex.all_cons ?_ (Lex.all_cons ?_ (Lex.all_cons ?_ (Lex.all_cons ?_ (Lex.all_cons ?_ (Lex.all_cons ?_ (Lex.all_cons ?_ (Lex.all_nil)))))))
      · refine Lex.ob_eager rfl rfl (fun σ w1 hS hB hg => ⟨.agg #[.int .i64 bn, .int .i64 bd], rfl, fun w2 hS => ?_, rfl⟩)
        clear hg
        simp only [Lex.full, Act.put, List.setIfInBounds_toArray, List.set_cons_zero, List.set_cons_succ]
        have f0_0 := hS.1.cell0
        have f0_1 := hS.1.cell1
        have f1_0 := hS.2.1.cell0
        have f1_1 := hS.2.1.cell1
        have f2_0 := hS.2.2.cell0
        have f2_1 := hS.2.2.cell1
        clear hS
        go_simp
        all_goals with_reducible rfl
      · refine Lex.ob_step rfl rfl rfl (fun σ w1 hS hB hg K hK => ?_)
        have HK := Lib.hid hK
        clear hK
        have g0 : (σ 0) = .agg #[.int .i64 bn, .int .i64 bd] := hg (0, 20) (by simp) (by kernel_rfl)
        clear hg
        simp only [Lex.full, Act.put, List.setIfInBounds_toArray, List.set_cons_zero, List.set_cons_succ]
        simp only [g0]
        have hw1 : Below w.heap.size w w1 := HBV1.out.drew.trans (hB.mono HBV1.out.size)
        have cc := cb w1 hw1
        go_wp2_with fail
        refine cc.mono ?_
        rintro e w2 ⟨v1, rfl, hm, hn⟩
        clear cc
        go_wp2_with fail
        exact HK.out _ _ ⟨rfl, hn, hm, fun h => nomatch h⟩
      · refine Lex.ob_eager rfl rfl (fun σ w1 hS hB hg => ⟨.agg #[.int .i64 p, .int .i64 q], rfl, fun w2 hS => ?_, rfl⟩)
        clear hg
        simp only [Lex.full, Act.put, List.setIfInBounds_toArray, List.set_cons_zero, List.set_cons_succ]
        have f0_0 := hS.1.cell0
        have f0_1 := hS.1.cell1
        have f1_0 := hS.2.1.cell0
        have f1_1 := hS.2.1.cell1
        have f2_0 := hS.2.2.cell0
        have f2_1 := hS.2.2.cell1
        clear hS
        go_simp
        all_goals with_reducible rfl
      · refine Lex.ob_step rfl rfl rfl (fun σ w1 hS hB hg K hK => ?_)
        have HK := Lib.hid hK
        clear hK
        have g2 : (σ 2) = .agg #[.int .i64 p, .int .i64 q] := hg (2, 22) (by simp) (by kernel_rfl)
        clear hg
        simp only [Lex.full, Act.put, List.setIfInBounds_toArray, List.set_cons_zero, List.set_cons_succ]
        simp only [g2]
        have hw1 : Below w.heap.size w w1 := HBV1.out.drew.trans (hB.mono HBV1.out.size)
        have cc := cx w1 hw1
        go_wp2_with fail
        refine cc.mono ?_
        rintro e w2 ⟨v1, rfl, hm, hn⟩
        clear cc
        go_wp2_with fail
        exact HK.out _ _ ⟨rfl, hn, hm, fun h => nomatch h⟩
      · refine Lex.ob_step rfl rfl rfl (fun σ w1 hS hB hg K hK => ?_)
        have HK := Lib.hid hK
        clear hK
        have g1 : IsQ w1 (σ 1) bn bd 2 := hg (1, 21) (by simp) (by kernel_rfl)
        have g3 : IsQ w1 (σ 3) p q 2 := hg (3, 23) (by simp) (by kernel_rfl)
        clear hg
        simp only [Lex.full, Act.put, List.setIfInBounds_toArray, List.set_cons_zero, List.set_cons_succ]
        have hw1 : Below w.heap.size w w1 := HBV1.out.drew.trans (hB.mono HBV1.out.size)
        have cc := csb w1 hw1 _ _ g1 g3
        go_wp2_with fail
        refine cc.mono ?_
        rintro e w2 ⟨v1, rfl, hm, hn⟩
        clear cc
        go_wp2_with fail
        exact HK.out _ _ ⟨rfl, hn, hm, fun h => nomatch h⟩
      · refine Lex.ob_step rfl rfl rfl (fun σ w1 hS hB hg K hK => ?_)
        have HK := Lib.hid hK
        clear hK
        have g4 : IsQ w1 (σ 4) (bn * q - p * bd) (bd * q) 5 := hg (4, 24) (by simp) (by kernel_rfl)
        clear hg
        simp only [Lex.full, Act.put, List.setIfInBounds_toArray, List.set_cons_zero, List.set_cons_succ]
        have hw1 : Below w.heap.size w w1 := HBV1.out.drew.trans (hB.mono HBV1.out.size)
        have cc := cxb w1 hw1 _ g4
        go_wp2_with fail
        refine cc.mono ?_
        rintro e w2 ⟨v1, rfl, hm, hn⟩
        clear cc
        go_wp2_with fail
        exact HK.out _ _ ⟨rfl, hn, hm, fun h => nomatch h⟩
      · refine Lex.ob_step rfl rfl rfl (fun σ w1 hS hB hg K hK => ?_)
        have HK := Lib.hid hK
        clear hK
        clear hg
        simp only [Lex.full, Act.put, List.setIfInBounds_toArray, List.set_cons_zero, List.set_cons_succ]
        go_wp2_with fail
        refine HK.out _ _ ⟨rfl, (Below.refl _ _).alloc (Nat.le_refl _) _, ⟨w1.heap.size, rfl, show V1.heap.size ≤ _ from hB.size, Four.newAt _ _ _ _ _ _ _ rfl⟩, fun _ => ?_⟩
        refine Lex.all_cons ?_ (Lex.all_cons ?_ (Lex.all_cons ?_ (Lex.all_cons ?_ (Lex.all_cons ?_ (Lex.all_cons ?_ (Lex.all_cons ?_ (Lex.all_nil)))))))
        · intro u h; cases h
        · intro u h; cases h
        · intro u h; cases h
        · intro u h; cases h
        · intro u h; cases h
        · intro u h; cases h
        · rintro u _ ⟨B, rfl, _, hT⟩ he; have := hT.lt; have he : Value.pointer (some ⟨B, 0, none⟩) = .pointer (some ⟨w1.heap.size, 0, none⟩) := he; injection he with he; injection he with he; injection he with he; omega
    · intro σ U hS hB hg hd
      have e0 : (σ 0) = .agg #[.int .i64 bn, .int .i64 bd] := hg (0, 20) (by simp)
      have e1 : IsQ U (σ 1) bn bd 2 := hg (1, 21) (by simp)
      have e2 : (σ 2) = .agg #[.int .i64 p, .int .i64 q] := hg (2, 22) (by simp)
      have e3 : IsQ U (σ 3) p q 2 := hg (3, 23) (by simp)
      have e4 : IsQ U (σ 4) (bn * q - p * bd) (bd * q) 5 := hg (4, 24) (by simp)
      have e5 : IsQ U (σ 5) ((bn * q - p * bd).natAbs : Int) (bd * q) 5 := hg (5, 25) (by simp)
      have e6 : ∃ B, (σ 6) = .pointer (some ⟨B, 0, none⟩) ∧ V1.heap.size ≤ B ∧ Four U B (.bool false) (.slice none 0 0) (.bool false) (.slice none 0 0) 85 := hg (6, 8) (by simp)
      clear hg hd
      simp only [Lex.full, Act.put, List.setIfInBounds_toArray, List.set_cons_zero, List.set_cons_succ]
      generalize σ 0 = sb0 at *
      generalize σ 1 = sb1 at *
      generalize σ 2 = sb2 at *
      generalize σ 3 = sb3 at *
      generalize σ 4 = sb4 at *
      generalize σ 5 = sb5 at *
      generalize σ 6 = sb6 at *
      clear σ
      subst e0
      clear e1
      subst e2
      clear e3
      clear e4
      obtain ⟨pb5, Ab5, nb5, cb5, pb6, Ab6, nb6, cb6, rfl, hPb, hQb⟩ := (e5).open2
      obtain ⟨Bb6, rfl, lb6, T6⟩ := e6
      have HTb6 := Lib.hid T6
      clear T6
      have HBm := Lib.hid (show Below w.heap.size w U from HBV1.out.drew.trans (hB.mono HBV1.out.size))
      have HBb := Lib.hid (show Below V1.heap.size V1 U from ⟨hB.os, hB.tape, hB.output, hB.size, hB.block⟩)
      have HSm := Lib.hid hS
      clear hB hS
      refine Lex.lex_do rfl ?_
      have r0 := HTb6.out.cell0
      have g0 := HTb6.out.free 0
      have r1 := HTb6.out.cell1
      have g1 := HTb6.out.free 1
      have r2 := HTb6.out.cell2
      have g2 := HTb6.out.free 2
      have r3 := HTb6.out.cell3
      have g3 := HTb6.out.free 3
      obtain ⟨U1, hV1⟩ : ∃ U1, U1 = ((((U.setCell ⟨Bb6, 0, none⟩ (.bool pb5.1)).setCell ⟨Bb6, 1, none⟩ (.slice Ab5 nb5 cb5)).setCell ⟨Bb6, 2, none⟩ (.bool pb6.1)).setCell ⟨Bb6, 3, none⟩ (.slice Ab6 nb6 cb6)) := ⟨_, rfl⟩
      have HV1 := Lib.hid hV1
      clear hV1
      have HPb := Lib.hid hPb
      have HQb := Lib.hid hQb
      clear hPb hQb
      go_wp2_with fail
      rw [← HV1.out]
      clear r0 r1 r2 r3 g0 g1 g2 g3
      have lF1 := YF.out.lt
      have lG1 := YG.out.lt
      have lH1 := YH.out.lt
      have lR1 := YR.out.lt
      have YF1 := Lib.hid (show Two U1 _ _ _ _ by rw [HV1.out]; exact ((((HSm.out.1.setOther ⟨Bb6, 0, none⟩ _ (by dsimp only; omega)).setOther ⟨Bb6, 1, none⟩ _ (by dsimp only; omega)).setOther ⟨Bb6, 2, none⟩ _ (by dsimp only; omega)).setOther ⟨Bb6, 3, none⟩ _ (by dsimp only; omega)))
      have YG1 := Lib.hid (show Two U1 _ _ _ _ by rw [HV1.out]; exact ((((HSm.out.2.1.setOther ⟨Bb6, 0, none⟩ _ (by dsimp only; omega)).setOther ⟨Bb6, 1, none⟩ _ (by dsimp only; omega)).setOther ⟨Bb6, 2, none⟩ _ (by dsimp only; omega)).setOther ⟨Bb6, 3, none⟩ _ (by dsimp only; omega)))
      have YH1 := Lib.hid (show Two U1 _ _ _ _ by rw [HV1.out]; exact ((((HSm.out.2.2.setOther ⟨Bb6, 0, none⟩ _ (by dsimp only; omega)).setOther ⟨Bb6, 1, none⟩ _ (by dsimp only; omega)).setOther ⟨Bb6, 2, none⟩ _ (by dsimp only; omega)).setOther ⟨Bb6, 3, none⟩ _ (by dsimp only; omega)))
      have YR1 := Lib.hid (show Two U1 _ _ _ _ by rw [HV1.out]; exact (((((YR.out.below HBb.out YR.out.lt).setOther ⟨Bb6, 0, none⟩ _ (by dsimp only; omega)).setOther ⟨Bb6, 1, none⟩ _ (by dsimp only; omega)).setOther ⟨Bb6, 2, none⟩ _ (by dsimp only; omega)).setOther ⟨Bb6, 3, none⟩ _ (by dsimp only; omega)))
      have la := HNa.out.lt
      have Ya := Lib.hid (show Four U1 _ _ _ _ _ _ by rw [HV1.out]; exact Four.keep4 (HNa.out.below HBb.out HNa.out.lt) (by omega))
      have YIa := Lib.hid (show IsQ U1 _ _ _ _ by rw [HV1.out]; exact IsQ.stored4 (HIa.out.below HBb.out) HTb6.out)
      have HIb := Lib.hid (show IsQ U1 (.agg #[.bool pb5.1, .slice Ab5 nb5 cb5, .bool pb6.1, .slice Ab6 nb6 cb6]) _ _ _ by rw [HV1.out]; exact ⟨pb5.1, _, pb6.1, _, rfl, HPb.out.storedF HTb6.out, HQb.out.storedF HTb6.out⟩)
      have HNb := Lib.hid (show Four U1 Bb6 (.bool pb5.1) (.slice Ab5 nb5 cb5) (.bool pb6.1) (.slice Ab6 nb6 cb6) 85 by rw [HV1.out]; exact HTb6.out.set4 _ _ _ _)
      have HBU1 := Lib.hid (show Below w.heap.size w U1 by rw [HV1.out]; exact (((HBm.out.setCell (by dsimp only; omega) _).setCell (by dsimp only; omega) _).setCell (by dsimp only; omega) _).setCell (by dsimp only; omega) _)
      refine Lex.lexQ_normal (fun _ => ⟨YF1.out, YG1.out, YH1.out⟩) ?_
      refine Lex.lex_nil ?_
      clear HV1 HBm HBb HSm HTb6 HPb HQb YF YG YH YR HBV1 cb csb cxb cx
      have k0 := Ya.out.cell0
      have k1 := Ya.out.cell1
      have k2 := Ya.out.cell2
      have k3 := Ya.out.cell3
      have k4 := HNb.out.cell0
      have k5 := HNb.out.cell1
      have k6 := HNb.out.cell2
      have k7 := HNb.out.cell3
      have c9 := cc U1 HBU1.out _ _ YIa.out HIb.out
      go_wp2_with fail
      refine c9.mono ?_
      rintro e V9 ⟨v9, rfl, rfl, hn9⟩
      have XF := Lib.hid (YG1.out.below hn9 YG1.out.lt)
      have XG := Lib.hid (YH1.out.below hn9 YH1.out.lt)
      have XR := Lib.hid (YR1.out.below hn9 YR1.out.lt)
      have XW := Lib.hid (HBU1.out.trans (hn9.mono HBU1.out.size))
      clear k0 k1 k2 k3 k4 k5 k6 k7 c9 cc hn9 Ya HNb YIa HIb YF1 YG1 YH1 YR1 HBU1 HNa HIa
      rcases HC.out with ⟨d1, rfl, rfl⟩ | ⟨d1, d2, rfl, rfl⟩ | ⟨d1, d2, rfl, d4, rfl, rfl⟩ | ⟨d1, d2, rfl, d4, rfl, rfl⟩ | ⟨d1, d2, d3, rfl, rfl⟩ | ⟨d1, rfl, rfl⟩
      all_goals
        clear HC
        have k0 := XF.out.cell0
        have k1 := XF.out.cell1
        have k2 := XG.out.cell0
        have k3 := XG.out.cell1
        have r0 := XR.out.cell0
        have r1 := XR.out.cell1
        have g0 := XR.out.free 0
        have g1 := XR.out.free 1
        go_wp2
        refine bodyPost_ret (v := .agg #[.int .i64 yn, .int .i64 yd]) (by simp [results, Try.results46, go_sem, r0, r1]) rfl ⟨rfl, ?_⟩
        exact (XW.out.setCell (by dsimp only; omega) _).setCell (by dsimp only; omega) _

end Go.Proofs.Ytklngjjokbhfpaa
