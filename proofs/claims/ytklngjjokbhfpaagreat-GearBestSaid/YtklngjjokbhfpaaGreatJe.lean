/- The walk of GearBest (printed by genje.py). -/
import Derived.Test.YtklngjjokbhfpaaGreatJc
import Derived.Test.YtklngjjokbhfpaaGreatJd
import Derived.Test.YtklngjjokbhfpaaGreatPkHa
import Derived.Test.YtklngjjokbhfpaaGreatEi
import Derived.Test.YtklngjjokbhfpaaGreatEr
import Derived.Test.YtklngjjokbhfpaaGreatEv
import Derived.Test.YtklngjjokbhfpaaGreatCr
import Derived.Test.YtklngjjokbhfpaaGreatVn
namespace Go.Proofs.YtklngjjokbhfpaaGreat
open Go.RowKit

theorem IntsT.set5 {w : World} {A : Option Addr} {xs : List Int} (h : IntsT w A xs) {R : Nat} {a b c d e : Value} {t : TypeId} (hR : Five w R a b c d e t) (ht : t ≠ 3) (u0 u1 u2 u3 u4 : Value) : IntsT (((((w.setCell ⟨R, 0, none⟩ u0).setCell ⟨R, 1, none⟩ u1).setCell ⟨R, 2, none⟩ u2).setCell ⟨R, 3, none⟩ u3).setCell ⟨R, 4, none⟩ u4) A xs :=
  ((((h.setCell R 0 u0 hR ht).setCell R 1 u1 (hR.set0 u0) ht).setCell R 2 u2 ((hR.set0 u0).set1 u1) ht).setCell R 3 u3 (((hR.set0 u0).set1 u1).set2 u2) ht).setCell R 4 u4 ((((hR.set0 u0).set1 u1).set2 u2).set3 u3) ht
set_option maxRecDepth 100000 in
theorem none_nil (w : World) : Calls Tryz.prog 20 #[.agg #[.slice none 0 0, .slice none 0 0]] w (RetV (.bool true) w) := by
  have hb : Below w.heap.size w (w.alloc (.cells #[.slice none 0 0, .slice none 0 0] 24)) := (Below.refl _ _).alloc (Nat.le_refl _) _
  have HB := Lib.hid hb
  clear hb
  go_enter Tryz.func20, Tryz.ntmps20
  go_wp2
  go_ret
  exact ⟨rfl, HB.out⟩
/-- What a train in the limits has. -/
theorem fits_bd {us vs : List Int} {wl wh pl ph st : Int} (hl : LimOk wl wh pl ph st) (h : FitsOk us vs wl wh pl ph st) : (∀ x ∈ us, 1 ≤ x ∧ x ≤ 200) ∧ (∀ x ∈ vs, 1 ≤ x ∧ x ≤ 200) ∧ us.length = vs.length ∧ 1 ≤ us.length ∧ us.length ≤ 3 := by
  obtain ⟨⟨t1, t2, t3, t4⟩, _⟩ := h
  obtain ⟨l1, l2, l3, l4, l5, l6, l7, l8, l9, l10⟩ := hl
  exact ⟨fun x hx => t4 x (by simp [hx]), fun x hx => t4 x (by simp [hx]), t3.symm, t1, by omega⟩

set_option maxRecDepth 100000 in
set_option maxHeartbeats 6400000 in
theorem best_lim (A : Option Addr) (n c : Nat) (B : Option Addr) (m d : Nat) (xs ys : List Int) (wl wh pl ph st a b : Int) (w : World) (hA : Ints .i64 w A xs) (hB : Ints .i64 w B ys) (hxl : xs.length = n) (hyl : ys.length = m) (hnc : n ≤ c) (hmd : m ≤ d) (hA0 : A = none → c = 0) (hB0 : B = none → d = 0) (hc9 : c ≤ 9223372036854775807) (hd9 : d ≤ 9223372036854775807) (hl : ¬ LimOk wl wh pl ph st) :
    Calls Tryz.prog 3 #[.agg #[.slice A n c, .slice B m d], .agg #[.int .i64 wl, .int .i64 wh, .int .i64 pl, .int .i64 ph, .int .i64 st], .agg #[.int .i64 a, .int .i64 b]] w (RetV (.bool true) w) := by
  have hk8 : (xs.take 8).length ≤ 8 := by simp; omega
  have hl8 : (ys.take 8).length ≤ 8 := by simp; omega
  have cfw0 : ∀ W (_ : Below w.heap.size w W), Calls Tryz.prog 12 #[.agg #[.slice A n c, .slice B m d]] W (RetFewT xs ys W) := fun W hb => few_typ A n c B m d xs ys W (hA.below hb) (hB.below hb) hxl hyl hnc hmd hA0 hB0 hc9 hd9
  clear hA hB hxl hyl hnc hmd hA0 hB0 hc9 hd9
  unfold RetFewT at cfw0
  obtain ⟨us, hus⟩ : ∃ us, us = xs.take 8 := ⟨_, rfl⟩
  obtain ⟨vs, hvs⟩ : ∃ vs, vs = ys.take 8 := ⟨_, rfl⟩
  rw [← hus] at hk8 cfw0
  rw [← hvs] at hl8 cfw0
  clear hus hvs
  obtain ⟨k, hk⟩ : ∃ k, us.length = k := ⟨_, rfl⟩
  obtain ⟨l, hll⟩ : ∃ l, vs.length = l := ⟨_, rfl⟩
  have cfw : ∀ W (_ : Below w.heap.size w W), Calls Tryz.prog 12 #[.agg #[.slice A n c, .slice B m d]] W (fun e w' => ∃ A' c' B' d', e = .returned (.agg #[.slice (some A') k c', .slice (some B') l d']) ∧ IntsT w' (some A') us ∧ IntsT w' (some B') vs ∧ Below W.heap.size W w') := fun W hb => (cfw0 W hb).mono fun e w' ⟨A', c', B', d', h1, _, _, _, _, h2, h3, h4⟩ => ⟨A', c', B', d', by rw [h1, hk, hll], h2, h3, h4⟩
  clear cfw0
  have cl := lives_y (w := w)
  have cn : ∀ W (_ : Below w.heap.size w W), Calls Tryz.prog 11 #[.agg #[.int .i64 wl, .int .i64 wh, .int .i64 pl, .int .i64 ph, .int .i64 st], .int .i64 11] W (RetW (.agg #[.int .i64 wl, .int .i64 wh, .int .i64 pl, .int .i64 ph, .int .i64 st]) W) := fun W _ => (narrow_bad wl wh pl ph st 11 W hl).mono fun e w' h => RetW.of h
  have clim : ∀ W (_ : Below w.heap.size w W), Calls Tryz.prog 13 #[.agg #[.int .i64 wl, .int .i64 wh, .int .i64 pl, .int .i64 ph, .int .i64 st]] W (RetW (.bool false) W) := fun W _ => by
    have := rlimits_any wl wh pl ph st W
    rw [decide_eq_false hl] at this
    exact this.mono fun e w' h => RetW.of h
  obtain ⟨W3, hW3⟩ : ∃ W3, W3 = ((w.alloc (.cells #[.slice A n c, .slice B m d] 24)).alloc (.cells #[.int .i64 wl, .int .i64 wh, .int .i64 pl, .int .i64 ph, .int .i64 st] 26)).alloc (.cells #[.int .i64 a, .int .i64 b] 28) := ⟨_, rfl⟩
  have s1 : (w.alloc (.cells #[.slice A n c, .slice B m d] 24)).heap.size = w.heap.size + 1 := by simp
  have s2 : ((w.alloc (.cells #[.slice A n c, .slice B m d] 24)).alloc (.cells #[.int .i64 wl, .int .i64 wh, .int .i64 pl, .int .i64 ph, .int .i64 st] 26)).heap.size = w.heap.size + 1 + 1 := by simp
  have hB3 : Below w.heap.size w W3 := by rw [hW3]; exact (((Below.refl _ _).alloc (Nat.le_refl _) _).alloc (by simp) _).alloc (by simp; omega) _
  have HBW := Lib.hid hB3
  have HF := Lib.hid (show Two W3 w.heap.size (.slice A n c) (.slice B m d) 24 by rw [hW3]; exact ((Two.newAt _ _ _ _ _ rfl).alloc _).alloc _)
  have HL := Lib.hid (show Five W3 (w.heap.size + 1) (.int .i64 wl) (.int .i64 wh) (.int .i64 pl) (.int .i64 ph) (.int .i64 st) 26 by
    rw [hW3]
    exact (Five.newAt _ _ _ _ _ _ _ (w.heap.size + 1) s1.symm).below ((Below.refl (w.heap.size + 1 + 1) _).alloc (by rw [s2]; exact Nat.le_refl _) _) (by omega))
  have HZ := Lib.hid (show Two W3 (w.heap.size + 1 + 1) (.int .i64 a) (.int .i64 b) 28 by rw [hW3]; exact Two.newAt _ _ _ _ _ s2.symm)
  clear hB3 s1 s2
  have HK8 := Lib.hid hk8
  have HL8 := Lib.hid hl8
  clear hk8 hl8
  go_enter Tryz.func3, Tryz.ntmps3
  go_upto_region 1 with fail
  rw [← hW3]
  clear hW3
  refine Lex.wp_region_mix (fun w' => Two w' w.heap.size (.slice A n c) (.slice B m d) 24 ∧ Five w' (w.heap.size + 1) (.int .i64 wl) (.int .i64 wh) (.int .i64 pl) (.int .i64 ph) (.int .i64 st) 26 ∧ Two w' (w.heap.size + 1 + 1) (.int .i64 a) (.int .i64 b) 28)
    [(0, 12), (1, 13), (2, 14), (3, 15), (4, 7), (5, 8)] (fun j => j == 0 || j == 2) (fun j => j == 4 || j == 5) [(6, false), (7, false)]
    (fun i v w' => match i with | 0 => v = .agg #[.int .i64 wl, .int .i64 wh, .int .i64 pl, .int .i64 ph, .int .i64 st] | 1 => v = .agg #[.int .i64 wl, .int .i64 wh, .int .i64 pl, .int .i64 ph, .int .i64 st] | 2 => v = .agg #[.slice A n c, .slice B m d] | 3 => ∃ A' c' B' d', v = (.agg #[.slice (some A') k c', .slice (some B') l d']) ∧ IntsT w' (some A') us ∧ IntsT w' (some B') vs | 4 => ∃ B, v = .pointer (some ⟨B, 0, none⟩) ∧ W3.heap.size ≤ B ∧ Five w' B (.int .i64 0) (.int .i64 0) (.int .i64 0) (.int .i64 0) (.int .i64 0) 26 | 5 => ∃ B, v = .pointer (some ⟨B, 0, none⟩) ∧ W3.heap.size ≤ B ∧ Two w' B (.slice none 0 0) (.slice none 0 0) 24 | _ => False)
    (by kernel_rfl) (by kernel_rfl) (by kernel_rfl) ⟨HF.out, HL.out, HZ.out⟩ (fun w1 w2 hS hb => ⟨hS.1.below hb hS.1.lt, hS.2.1.below hb hS.2.1.lt, hS.2.2.below hb hS.2.2.lt⟩) ?_ ?_ ?_
  · refine Lex.all_cons ?_ (Lex.all_cons ?_ (Lex.all_cons ?_ (Lex.all_cons ?_ (Lex.all_cons ?_ (Lex.all_cons ?_ (Lex.all_nil))))))
    · exact fun v w1 w2 h _ => h
    · exact fun v w1 w2 h _ => h
    · exact fun v w1 w2 h _ => h
    · exact fun v w1 w2 ⟨A', c', B', d', hv, h1, h2⟩ hb => ⟨A', c', B', d', hv, h1.below hb, h2.below hb⟩
    · exact fun v w1 w2 ⟨B, hv, hl, hT⟩ hb => ⟨B, hv, hl, hT.below hb hT.lt⟩
    · exact fun v w1 w2 ⟨B, hv, hl, hT⟩ hb => ⟨B, hv, hl, hT.below hb hT.lt⟩
  · refine Lex.all_cons ?_ (Lex.all_cons ?_ (Lex.all_cons ?_ (Lex.all_cons ?_ (Lex.all_cons ?_ (Lex.all_cons ?_ (Lex.all_nil))))))
    · refine Lex.ob_eager rfl rfl (fun σ w1 hS hB hg => ⟨.agg #[.int .i64 wl, .int .i64 wh, .int .i64 pl, .int .i64 ph, .int .i64 st], rfl, fun w2 hS => ?_, rfl⟩)
      clear hg
      simp only [Lex.full, Act.put, List.setIfInBounds_toArray, List.set_cons_zero, List.set_cons_succ]
      have f1_0 := hS.2.1.cell0
      have f1_1 := hS.2.1.cell1
      have f1_2 := hS.2.1.cell2
      have f1_3 := hS.2.1.cell3
      have f1_4 := hS.2.1.cell4
      clear hS
      go_simp
      all_goals with_reducible rfl
    · refine Lex.ob_step rfl rfl rfl (fun σ w1 hS hB hg K hK => ?_)
      have HK := Lib.hid hK
      clear hK
      have g0 : (σ 0) = .agg #[.int .i64 wl, .int .i64 wh, .int .i64 pl, .int .i64 ph, .int .i64 st] := hg (0, 12) (by simp) (by kernel_rfl)
      clear hg
      simp only [Lex.full, Act.put, List.setIfInBounds_toArray, List.set_cons_zero, List.set_cons_succ]
      simp only [g0]
      have hw1 : Below w.heap.size w w1 := HBW.out.drew.trans (hB.mono HBW.out.size)
      have cc := cn w1 hw1
      go_wp2_with fail
      refine cc.mono ?_
      rintro e w2 ⟨v1, rfl, rfl, hn⟩
      clear cc
      go_wp2_with fail
      exact HK.out _ _ ⟨rfl, hn, rfl, fun h => nomatch h⟩
    · refine Lex.ob_eager rfl rfl (fun σ w1 hS hB hg => ⟨.agg #[.slice A n c, .slice B m d], rfl, fun w2 hS => ?_, rfl⟩)
      clear hg
      simp only [Lex.full, Act.put, List.setIfInBounds_toArray, List.set_cons_zero, List.set_cons_succ]
      have f0_0 := hS.1.cell0
      have f0_1 := hS.1.cell1
      clear hS
      go_simp
      all_goals with_reducible rfl
    · refine Lex.ob_step rfl rfl rfl (fun σ w1 hS hB hg K hK => ?_)
      have HK := Lib.hid hK
      clear hK
      have g2 : (σ 2) = .agg #[.slice A n c, .slice B m d] := hg (2, 14) (by simp) (by kernel_rfl)
      clear hg
      simp only [Lex.full, Act.put, List.setIfInBounds_toArray, List.set_cons_zero, List.set_cons_succ]
      simp only [g2]
      have hw1 : Below w.heap.size w w1 := HBW.out.drew.trans (hB.mono HBW.out.size)
      have cc := cfw w1 hw1
      go_wp2_with fail
      refine cc.mono ?_
      rintro e w2 ⟨A', c', B', d', rfl, hI1, hI2, hn⟩
      clear cc
      go_wp2_with fail
      exact HK.out _ _ ⟨rfl, hn, ⟨A', c', B', d', rfl, hI1, hI2⟩, fun h => nomatch h⟩
    · refine Lex.ob_step rfl rfl rfl (fun σ w1 hS hB hg K hK => ?_)
      have HK := Lib.hid hK
      clear hK
      clear hg
      simp only [Lex.full, Act.put, List.setIfInBounds_toArray, List.set_cons_zero, List.set_cons_succ]
      go_wp2_with fail
      refine HK.out _ _ ⟨rfl, (Below.refl _ _).alloc (Nat.le_refl _) _, ⟨w1.heap.size, rfl, show W3.heap.size ≤ _ from hB.size, Five.newAt _ _ _ _ _ _ _ _ rfl⟩, fun _ => ?_⟩
      refine Lex.all_cons ?_ (Lex.all_cons ?_ (Lex.all_cons ?_ (Lex.all_cons ?_ (Lex.all_cons ?_ (Lex.all_cons ?_ (Lex.all_nil))))))
      · intro u h; cases h
      · intro u h; cases h
      · intro u h; cases h
      · intro u h; cases h
      · rintro u _ ⟨B, rfl, _, hT⟩ he; have := hT.lt; have he : Value.pointer (some ⟨B, 0, none⟩) = .pointer (some ⟨w1.heap.size, 0, none⟩) := he; injection he with he; injection he with he; injection he with he; omega
      · rintro u _ ⟨B, rfl, _, hT⟩ he; have := hT.lt; have he : Value.pointer (some ⟨B, 0, none⟩) = .pointer (some ⟨w1.heap.size, 0, none⟩) := he; injection he with he; injection he with he; injection he with he; omega
    · refine Lex.ob_step rfl rfl rfl (fun σ w1 hS hB hg K hK => ?_)
      have HK := Lib.hid hK
      clear hK
      clear hg
      simp only [Lex.full, Act.put, List.setIfInBounds_toArray, List.set_cons_zero, List.set_cons_succ]
      go_wp2_with fail
      refine HK.out _ _ ⟨rfl, (Below.refl _ _).alloc (Nat.le_refl _) _, ⟨w1.heap.size, rfl, show W3.heap.size ≤ _ from hB.size, Two.newAt _ _ _ _ _ rfl⟩, fun _ => ?_⟩
      refine Lex.all_cons ?_ (Lex.all_cons ?_ (Lex.all_cons ?_ (Lex.all_cons ?_ (Lex.all_cons ?_ (Lex.all_cons ?_ (Lex.all_nil))))))
      · intro u h; cases h
      · intro u h; cases h
      · intro u h; cases h
      · intro u h; cases h
      · rintro u _ ⟨B, rfl, _, hT⟩ he; have := hT.lt; have he : Value.pointer (some ⟨B, 0, none⟩) = .pointer (some ⟨w1.heap.size, 0, none⟩) := he; injection he with he; injection he with he; injection he with he; omega
      · rintro u _ ⟨B, rfl, _, hT⟩ he; have := hT.lt; have he : Value.pointer (some ⟨B, 0, none⟩) = .pointer (some ⟨w1.heap.size, 0, none⟩) := he; injection he with he; injection he with he; injection he with he; omega
  · intro σ V1_ hS hB hg hd
    have e0 : (σ 0) = .agg #[.int .i64 wl, .int .i64 wh, .int .i64 pl, .int .i64 ph, .int .i64 st] := hg (0, 12) (by simp)
    have e1 : (σ 1) = .agg #[.int .i64 wl, .int .i64 wh, .int .i64 pl, .int .i64 ph, .int .i64 st] := hg (1, 13) (by simp)
    have e2 : (σ 2) = .agg #[.slice A n c, .slice B m d] := hg (2, 14) (by simp)
    have e3 : ∃ A' c' B' d', (σ 3) = (.agg #[.slice (some A') k c', .slice (some B') l d']) ∧ IntsT V1_ (some A') us ∧ IntsT V1_ (some B') vs := hg (3, 15) (by simp)
    have e4 : ∃ B, (σ 4) = .pointer (some ⟨B, 0, none⟩) ∧ W3.heap.size ≤ B ∧ Five V1_ B (.int .i64 0) (.int .i64 0) (.int .i64 0) (.int .i64 0) (.int .i64 0) 26 := hg (4, 7) (by simp)
    have e5 : ∃ B, (σ 5) = .pointer (some ⟨B, 0, none⟩) ∧ W3.heap.size ≤ B ∧ Two V1_ B (.slice none 0 0) (.slice none 0 0) 24 := hg (5, 8) (by simp)
    have n1_4_5 : σ 4 ≠ σ 5 := hd (4, 7) (by simp) (5, 8) (by simp) (by decide) rfl rfl
    clear hg hd
    simp only [Lex.full, Act.put, List.setIfInBounds_toArray, List.set_cons_zero, List.set_cons_succ]
    generalize σ 0 = s1_0 at *
    generalize σ 1 = s1_1 at *
    generalize σ 2 = s1_2 at *
    generalize σ 3 = s1_3 at *
    generalize σ 4 = s1_4 at *
    generalize σ 5 = s1_5 at *
    clear σ
    subst e0
    subst e1
    subst e2
    obtain ⟨A', c', B', d', rfl, hI1, hI2⟩ := e3
    obtain ⟨B1_4, rfl, l1_4, T4⟩ := e4
    have HT1_4 := Lib.hid T4
    clear T4
    obtain ⟨B1_5, rfl, l1_5, T5⟩ := e5
    have HT1_5 := Lib.hid T5
    clear T5
    replace n1_4_5 : B1_4 ≠ B1_5 := fun e => n1_4_5 (by rw [e])
    have HBm := Lib.hid (show Below w.heap.size w V1_ from HBW.out.drew.trans (hB.mono HBW.out.size))
    have HBb := Lib.hid (show Below W3.heap.size W3 V1_ from ⟨hB.os, hB.tape, hB.output, hB.size, hB.block⟩)
    have HSm := Lib.hid hS
    clear hB hS
    have l1_x := HF.out.lt
    have G1_x := Lib.hid HSm.out.1
    have l1_y := HL.out.lt
    have G1_y := Lib.hid HSm.out.2.1
    have l1_z := HZ.out.lt
    have G1_z := Lib.hid HSm.out.2.2
    have lw1 := HBW.out.size
    clear HSm HBb HF HL HZ HBW
    have Y1_i1 := Lib.hid hI1
    clear hI1
    have Y1_i2 := Lib.hid hI2
    clear hI2
    refine Lex.lex_do rfl ?_
    have r0 := HT1_4.out.cell0
    have g0 := HT1_4.out.free 0
    have r1 := HT1_4.out.cell1
    have g1 := HT1_4.out.free 1
    have r2 := HT1_4.out.cell2
    have g2 := HT1_4.out.free 2
    have r3 := HT1_4.out.cell3
    have g3 := HT1_4.out.free 3
    have r4 := HT1_4.out.cell4
    have g4 := HT1_4.out.free 4
    obtain ⟨V1_s1, hV1⟩ : ∃ V1_s1, V1_s1 = (((((V1_.setCell ⟨B1_4, 0, none⟩ (.int .i64 wl)).setCell ⟨B1_4, 1, none⟩ (.int .i64 wh)).setCell ⟨B1_4, 2, none⟩ (.int .i64 pl)).setCell ⟨B1_4, 3, none⟩ (.int .i64 ph)).setCell ⟨B1_4, 4, none⟩ (.int .i64 st)) := ⟨_, rfl⟩
    have HV1 := Lib.hid hV1
    clear hV1
    go_wp2_with fail
    rw [← HV1.out]
    clear r0 g0 r1 g1 r2 g2 r3 g3 r4 g4
    have G1_xs := Lib.hid (show Two V1_s1 w.heap.size (.slice A n c) (.slice B m d) 24 by rw [HV1.out]; exact (((((G1_x.out.setOther ⟨B1_4, 0, none⟩ _ (by dsimp only; omega)).setOther ⟨B1_4, 1, none⟩ _ (by dsimp only; omega)).setOther ⟨B1_4, 2, none⟩ _ (by dsimp only; omega)).setOther ⟨B1_4, 3, none⟩ _ (by dsimp only; omega)).setOther ⟨B1_4, 4, none⟩ _ (by dsimp only; omega)))
    have G1_ys := Lib.hid (show Five V1_s1 (w.heap.size + 1) (.int .i64 wl) (.int .i64 wh) (.int .i64 pl) (.int .i64 ph) (.int .i64 st) 26 by rw [HV1.out]; exact (((((G1_y.out.setOther ⟨B1_4, 0, none⟩ _ (by dsimp only; omega)).setOther ⟨B1_4, 1, none⟩ _ (by dsimp only; omega)).setOther ⟨B1_4, 2, none⟩ _ (by dsimp only; omega)).setOther ⟨B1_4, 3, none⟩ _ (by dsimp only; omega)).setOther ⟨B1_4, 4, none⟩ _ (by dsimp only; omega)))
    have G1_zs := Lib.hid (show Two V1_s1 (w.heap.size + 1 + 1) (.int .i64 a) (.int .i64 b) 28 by rw [HV1.out]; exact (((((G1_z.out.setOther ⟨B1_4, 0, none⟩ _ (by dsimp only; omega)).setOther ⟨B1_4, 1, none⟩ _ (by dsimp only; omega)).setOther ⟨B1_4, 2, none⟩ _ (by dsimp only; omega)).setOther ⟨B1_4, 3, none⟩ _ (by dsimp only; omega)).setOther ⟨B1_4, 4, none⟩ _ (by dsimp only; omega)))
    replace HT1_5 := Lib.hid (show Two V1_s1 _ _ _ _ by rw [HV1.out]; exact (((((HT1_5.out.setOther ⟨B1_4, 0, none⟩ _ (by dsimp only; omega)).setOther ⟨B1_4, 1, none⟩ _ (by dsimp only; omega)).setOther ⟨B1_4, 2, none⟩ _ (by dsimp only; omega)).setOther ⟨B1_4, 3, none⟩ _ (by dsimp only; omega)).setOther ⟨B1_4, 4, none⟩ _ (by dsimp only; omega)))
    have G1_l := Lib.hid (show Five V1_s1 B1_4 (.int .i64 wl) (.int .i64 wh) (.int .i64 pl) (.int .i64 ph) (.int .i64 st) 26 by rw [HV1.out]; exact (((((HT1_4.out).set0 _).set1 _).set2 _).set3 _).set4 _)
    have Y1_i1s := Lib.hid (show IntsT V1_s1 (some A') us by rw [HV1.out]; exact IntsT.set5 Y1_i1.out HT1_4.out (by decide) _ _ _ _ _)
    clear Y1_i1
    have Y1_i2s := Lib.hid (show IntsT V1_s1 (some B') vs by rw [HV1.out]; exact IntsT.set5 Y1_i2.out HT1_4.out (by decide) _ _ _ _ _)
    clear Y1_i2
    have HB1_1 := Lib.hid (show Below w.heap.size w V1_s1 by rw [HV1.out]; exact (((((HBm.out.setCell (by dsimp only; omega) _).setCell (by dsimp only; omega) _).setCell (by dsimp only; omega) _).setCell (by dsimp only; omega) _).setCell (by dsimp only; omega) _))
    clear HV1 HT1_4 HBm G1_x G1_y G1_z
    refine Lex.lexQ_normal (fun _ => ⟨G1_xs.out, G1_ys.out, G1_zs.out⟩) ?_
    refine Lex.lex_do rfl ?_
    have r0 := HT1_5.out.cell0
    have g0 := HT1_5.out.free 0
    have r1 := HT1_5.out.cell1
    have g1 := HT1_5.out.free 1
    obtain ⟨V1_s2, hV1⟩ : ∃ V1_s2, V1_s2 = ((V1_s1.setCell ⟨B1_5, 0, none⟩ ((.slice (some A') k c'))).setCell ⟨B1_5, 1, none⟩ ((.slice (some B') l d'))) := ⟨_, rfl⟩
    have HV1 := Lib.hid hV1
    clear hV1
    go_wp2_with fail
    rw [← HV1.out]
    clear r0 g0 r1 g1
    have G1_xss := Lib.hid (show Two V1_s2 w.heap.size (.slice A n c) (.slice B m d) 24 by rw [HV1.out]; exact ((G1_xs.out.setOther ⟨B1_5, 0, none⟩ _ (by dsimp only; omega)).setOther ⟨B1_5, 1, none⟩ _ (by dsimp only; omega)))
    have G1_yss := Lib.hid (show Five V1_s2 (w.heap.size + 1) (.int .i64 wl) (.int .i64 wh) (.int .i64 pl) (.int .i64 ph) (.int .i64 st) 26 by rw [HV1.out]; exact ((G1_ys.out.setOther ⟨B1_5, 0, none⟩ _ (by dsimp only; omega)).setOther ⟨B1_5, 1, none⟩ _ (by dsimp only; omega)))
    have G1_zss := Lib.hid (show Two V1_s2 (w.heap.size + 1 + 1) (.int .i64 a) (.int .i64 b) 28 by rw [HV1.out]; exact ((G1_zs.out.setOther ⟨B1_5, 0, none⟩ _ (by dsimp only; omega)).setOther ⟨B1_5, 1, none⟩ _ (by dsimp only; omega)))
    have G1_ls := Lib.hid (show Five V1_s2 B1_4 (.int .i64 wl) (.int .i64 wh) (.int .i64 pl) (.int .i64 ph) (.int .i64 st) 26 by rw [HV1.out]; exact ((G1_l.out.setOther ⟨B1_5, 0, none⟩ _ (by dsimp only; omega)).setOther ⟨B1_5, 1, none⟩ _ (by dsimp only; omega)))
    have G1_u := Lib.hid (show Two V1_s2 B1_5 (.slice (some A') k c') (.slice (some B') l d') 24 by rw [HV1.out]; exact (HT1_5.out.set0 _).set1 _)
    have Y1_i1ss := Lib.hid (show IntsT V1_s2 (some A') us by rw [HV1.out]; exact IntsT.set01 Y1_i1s.out HT1_5.out (by decide) _ _)
    clear Y1_i1s
    have Y1_i2ss := Lib.hid (show IntsT V1_s2 (some B') vs by rw [HV1.out]; exact IntsT.set01 Y1_i2s.out HT1_5.out (by decide) _ _)
    clear Y1_i2s
    have HB1_2 := Lib.hid (show Below w.heap.size w V1_s2 by rw [HV1.out]; exact ((HB1_1.out.setCell (by dsimp only; omega) _).setCell (by dsimp only; omega) _))
    clear HV1 HT1_5 HB1_1 G1_xs G1_ys G1_zs G1_l
    refine Lex.lexQ_normal (fun _ => ⟨G1_xss.out, G1_yss.out, G1_zss.out⟩) ?_
    refine Lex.lex_nil ?_
    clear G1_xss G1_yss
    clear cn cfw Y1_i1ss Y1_i2ss
    have k0_0 := G1_ls.out.cell0
    have k0_1 := G1_ls.out.cell1
    have k0_2 := G1_ls.out.cell2
    have k0_3 := G1_ls.out.cell3
    have k0_4 := G1_ls.out.cell4
    have hb20 := Below.refl V1_s2.heap.size V1_s2
    have hw20 := HB1_2.out
    have cc := clim V1_s2 hw20
    go_wp2_with fail
    refine cc.mono ?_
    rintro e V21 ⟨v21, rfl, hm21, hn21⟩
    have hb21 := hb20.trans (hn21.mono hb20.size)
    have hw21 := hw20.trans (hn21.mono hw20.size)
    subst hm21
    clear cc hb20 hw20 hn21
    clear k0_0 k0_1 k0_2 k0_3 k0_4
    have k0_0 := (G1_ls.out.below hb21 G1_ls.out.lt).cell0
    have k0_1 := (G1_ls.out.below hb21 G1_ls.out.lt).cell1
    have k0_2 := (G1_ls.out.below hb21 G1_ls.out.lt).cell2
    have k0_3 := (G1_ls.out.below hb21 G1_ls.out.lt).cell3
    have k0_4 := (G1_ls.out.below hb21 G1_ls.out.lt).cell4
    have cc := cl V21 hw21
    go_wp2_with fail
    refine cc.mono ?_
    rintro e V22 ⟨v22, rfl, hm22, hn22⟩
    have hb22 := hb21.trans (hn22.mono hb21.size)
    have hw22 := hw21.trans (hn22.mono hw21.size)
    subst hm22
    clear cc hb21 hw21 hn22
    clear k0_0 k0_1 k0_2 k0_3 k0_4
    have k0_0 := (G1_ls.out.below hb22 G1_ls.out.lt).cell0
    have k0_1 := (G1_ls.out.below hb22 G1_ls.out.lt).cell1
    have k0_2 := (G1_ls.out.below hb22 G1_ls.out.lt).cell2
    have k0_3 := (G1_ls.out.below hb22 G1_ls.out.lt).cell3
    have k0_4 := (G1_ls.out.below hb22 G1_ls.out.lt).cell4
    have HE := Lib.hid hw22
    clear hb22 hw22
    go_wp2
    go_ret
    exact ⟨rfl, HE.out⟩

theorem of_w' {p q : Int} (h : FOk (p, q)) {w : World} : ∀ W (_ : Below w.heap.size w W), Calls Tryz.prog 22 #[.agg #[.int .i64 p, .int .i64 q]] W (RetRQ p q 5 W) := fun W _ => of_any' p q W (i64_lowf h).1 (i64_lowf h).2

set_option maxRecDepth 100000 in
set_option maxHeartbeats 6400000 in
theorem best_fit (A : Option Addr) (n c : Nat) (B : Option Addr) (m d : Nat) (xs ys : List Int) (wl wh pl ph st a b : Int) (w : World) (hA : Ints .i64 w A xs) (hB : Ints .i64 w B ys) (hxl : xs.length = n) (hyl : ys.length = m) (hnc : n ≤ c) (hmd : m ≤ d) (hA0 : A = none → c = 0) (hB0 : B = none → d = 0) (hc9 : c ≤ 9223372036854775807) (hd9 : d ≤ 9223372036854775807) (hl : LimOk wl wh pl ph st) (hf : FitsOk (xs.take 8) (ys.take 8) wl (narW wl wh 11) pl (narW pl ph 5) st) :
    Calls Tryz.prog 3 #[.agg #[.slice A n c, .slice B m d], .agg #[.int .i64 wl, .int .i64 wh, .int .i64 pl, .int .i64 ph, .int .i64 st], .agg #[.int .i64 a, .int .i64 b]] w (RetV (.bool true) w) := by
  have hk8 : (xs.take 8).length ≤ 8 := by simp; omega
  have hl8 : (ys.take 8).length ≤ 8 := by simp; omega
  have cfw0 : ∀ W (_ : Below w.heap.size w W), Calls Tryz.prog 12 #[.agg #[.slice A n c, .slice B m d]] W (RetFewT xs ys W) := fun W hb => few_typ A n c B m d xs ys W (hA.below hb) (hB.below hb) hxl hyl hnc hmd hA0 hB0 hc9 hd9
  clear hA hB hxl hyl hnc hmd hA0 hB0 hc9 hd9
  unfold RetFewT at cfw0
  obtain ⟨us, hus⟩ : ∃ us, us = xs.take 8 := ⟨_, rfl⟩
  obtain ⟨vs, hvs⟩ : ∃ vs, vs = ys.take 8 := ⟨_, rfl⟩
  rw [← hus] at hk8 cfw0 hf
  rw [← hvs] at hl8 cfw0 hf
  clear hus hvs
  obtain ⟨k, hk⟩ : ∃ k, us.length = k := ⟨_, rfl⟩
  obtain ⟨l, hll⟩ : ∃ l, vs.length = l := ⟨_, rfl⟩
  have cfw : ∀ W (_ : Below w.heap.size w W), Calls Tryz.prog 12 #[.agg #[.slice A n c, .slice B m d]] W (fun e w' => ∃ A' c' B' d', e = .returned (.agg #[.slice (some A') k c', .slice (some B') l d']) ∧ IntsT w' (some A') us ∧ IntsT w' (some B') vs ∧ Below W.heap.size W w') := fun W hb => (cfw0 W hb).mono fun e w' ⟨A', c', B', d', h1, _, _, _, _, h2, h3, h4⟩ => ⟨A', c', B', d', by rw [h1, hk, hll], h2, h3, h4⟩
  clear cfw0
  have cl := lives_y (w := w)
  obtain ⟨w2, hw2⟩ : ∃ w2, narW wl wh 11 = w2 := ⟨_, rfl⟩
  obtain ⟨p2, hp2⟩ : ∃ p2, narW pl ph 5 = p2 := ⟨_, rfl⟩
  have hl2 := narW_lim hl (most := 11) (half := 5) (by omega) (by omega)
  rw [hw2, hp2] at hl2 hf
  have cn : ∀ W (_ : Below w.heap.size w W), Calls Tryz.prog 11 #[.agg #[.int .i64 wl, .int .i64 wh, .int .i64 pl, .int .i64 ph, .int .i64 st], .int .i64 11] W (RetW (.agg #[.int .i64 wl, .int .i64 w2, .int .i64 pl, .int .i64 p2, .int .i64 st]) W) := fun W _ => (narrow_ok wl wh pl ph st 11 5 w2 p2 W hl (by omega) (by omega) rfl hw2 hp2).mono fun e w' h => RetW.of h
  have clim : ∀ W (_ : Below w.heap.size w W), Calls Tryz.prog 13 #[.agg #[.int .i64 wl, .int .i64 w2, .int .i64 pl, .int .i64 p2, .int .i64 st]] W (RetW (.bool true) W) := fun W _ => by
    have := rlimits_any wl w2 pl p2 st W
    rw [decide_eq_true hl2] at this
    exact this.mono fun e w' h => RetW.of h
  clear hw2 hp2
  obtain ⟨bx1, bx2, bx3, bx4, bx5⟩ := fits_bd hl2 hf
  have htn : TrainOk us vs := ⟨bx4, by omega, bx3.symm, fun x hx => (List.mem_append.1 hx).elim (bx1 x) (bx2 x)⟩
  have hz := ratV htn
  obtain ⟨tn, htn1⟩ : ∃ tn, tn = (ratP us vs).1 := ⟨_, rfl⟩
  obtain ⟨td, htd1⟩ : ∃ td, td = (ratP us vs).2 := ⟨_, rfl⟩
  have hre : ratP us vs = (tn, td) := by rw [htn1, htd1]
  have hpu := prodL_six bx1 (by omega)
  have hpv := prodL_six bx2 (by omega)
  obtain ⟨z1, z2, z3, z4, z5⟩ := lowP_out (p := prodL us) (q := prodL vs) (by omega)
  rw [show lowP (prodL us) (prodL vs) = (tn, td) from hre] at z1 z2 z3 z4 z5
  simp only at z1 z2 z3 z4 z5
  rw [← htn1, ← htd1] at hz
  have hfok : FOk (tn, td) := ⟨z2, by show td ≤ _; omega, by show tn.natAbs ≤ _; omega, z3⟩
  have hpos : 0 < tn := by
    rcases Int.lt_or_le 0 tn with h | h
    · exact h
    · have h1 : tn * prodL vs ≤ 0 := Int.mul_nonpos_of_nonpos_of_nonneg h (by omega)
      have h2 : 0 < prodL us * td := Int.mul_pos (by omega) (by omega)
      omega
  have hhas : HasR tn td (us, vs) := by show prodL us * td = prodL vs * tn; rw [← z1, Int.mul_comm]
  obtain ⟨⟨eu, ev⟩, hex⟩ : ∃ t, exactM tn td wl w2 pl p2 st = some t := by
    have hbest := exactM_best hfok hpos hl2
    cases he : exactM tn td wl w2 pl p2 st with
    | some t => exact ⟨t, rfl⟩
    | none => rw [he] at hbest; exact absurd ⟨hf, hhas⟩ (hbest (us, vs))
  have hbt : decide (betterM us vs eu ev < 0) = false := by
    have hbest := exactM_best hfok hpos hl2
    rw [hex] at hbest
    exact decide_eq_false (hbest.2 (us, vs) ⟨hf, hhas⟩)
  have cfr : ∀ W (_ : Below w.heap.size w W) u, IsRQ W u tn td (5 + 12 * k + 1) → Calls Tryz.prog 16 #[u] W (RetW (.tuple #[.agg #[.int .i64 tn, .int .i64 td], .int .i64 0]) W) := fun W _ u g => by
    have := rfrac_any g (by omega) z2
    have e : lowV tn td = lowV (prodL us) (prodL vs) := by rw [lowV_eq, lowP_self z2 z3, lowV_eq (prodL us), show lowP (prodL us) (prodL vs) = (tn, td) from hre]
    rw [e, hz] at this
    exact this.mono fun e w' h => RetW.of h
  have cv := valid_y tn td true (decide_eq_true hfok) (w := w)
  have d1 : decide (tn ≤ 0) = false := decide_eq_false (by omega)
  have hbest := exactM_best hfok hpos hl2
  rw [hex] at hbest
  obtain ⟨⟨hef, heh⟩, _⟩ := hbest
  have heh : prodL eu * td = prodL ev * tn := heh
  have hef : FitsOk eu ev wl w2 pl p2 st := hef
  obtain ⟨by1, by2, by3, by4, by5⟩ := fits_bd hl2 hef
  obtain ⟨e1, he1⟩ : ∃ e1, eu.length = e1 := ⟨_, rfl⟩
  have he2 : ev.length = e1 := by omega
  have cex : ∀ W (_ : Below w.heap.size w W), Calls Tryz.prog 19 #[.agg #[.int .i64 tn, .int .i64 td], .agg #[.int .i64 wl, .int .i64 w2, .int .i64 pl, .int .i64 p2, .int .i64 st]] W (fun e w' => ∃ g1 h1 g2 h2, e = .returned (.tuple #[(.agg #[.slice (some ⟨g1, 0, none⟩) e1 h1, .slice (some ⟨g2, 0, none⟩) e1 h2]), .int .i64 0]) ∧ Ints .i64 w' (some ⟨g1, 0, none⟩) eu ∧ Ints .i64 w' (some ⟨g2, 0, none⟩) ev ∧ Below W.heap.size W w') := fun W _ => by
    have := exact_any tn td wl w2 pl p2 st W hfok hl2 hpos
    rw [hex] at this
    refine this.mono fun e w' ⟨hn, g1, h1, g2, h2, n1, n2, hv, o1, o2⟩ => ?_
    obtain rfl : n1 = e1 := by rw [← he1]; exact o1.len.symm
    obtain rfl : n2 = n1 := by rw [← he2]; exact o2.len.symm
    exact ⟨g1, h1, g2, h2, hv, o1.ints, o2.ints, hn⟩
  have hpe := prodL_six by1 (by omega)
  have hpf := prodL_six by2 (by omega)
  obtain ⟨y1, y2, y3, y4, y5⟩ := lowP_out (p := prodL eu) (q := prodL ev) (by omega)
  have hyl : lowP (prodL eu) (prodL ev) = (tn, td) := by
    rw [lowP_eq (r := tn) (s := td) (by omega) (by have := hfok.1; simp only at this; omega) (by rw [heh, Int.mul_comm])]
    exact lowP_self hfok.1 hfok.2.2.2
  have coq := of_w' hfok (w := w)
  have ccq : ∀ W (_ : Below w.heap.size w W) u v, IsRQ W u tn td (5 + 12 * e1 + 1) → IsRQ W v tn td 5 → Calls Tryz.prog 21 #[u, v] W (RetW (.int .i64 0) W) := fun W _ u v g1 g2 => by
    have := rcmpq_any g1 g2 (by omega) (by omega)
    rw [show tn * td - tn * td = 0 by omega] at this
    exact this.mono fun e w' h => RetW.of h
  obtain ⟨W3, hW3⟩ : ∃ W3, W3 = ((w.alloc (.cells #[.slice A n c, .slice B m d] 24)).alloc (.cells #[.int .i64 wl, .int .i64 wh, .int .i64 pl, .int .i64 ph, .int .i64 st] 26)).alloc (.cells #[.int .i64 a, .int .i64 b] 28) := ⟨_, rfl⟩
  have s1 : (w.alloc (.cells #[.slice A n c, .slice B m d] 24)).heap.size = w.heap.size + 1 := by simp
  have s2 : ((w.alloc (.cells #[.slice A n c, .slice B m d] 24)).alloc (.cells #[.int .i64 wl, .int .i64 wh, .int .i64 pl, .int .i64 ph, .int .i64 st] 26)).heap.size = w.heap.size + 1 + 1 := by simp
  have hB3 : Below w.heap.size w W3 := by rw [hW3]; exact (((Below.refl _ _).alloc (Nat.le_refl _) _).alloc (by simp) _).alloc (by simp; omega) _
  have HBW := Lib.hid hB3
  have HF := Lib.hid (show Two W3 w.heap.size (.slice A n c) (.slice B m d) 24 by rw [hW3]; exact ((Two.newAt _ _ _ _ _ rfl).alloc _).alloc _)
  have HL := Lib.hid (show Five W3 (w.heap.size + 1) (.int .i64 wl) (.int .i64 wh) (.int .i64 pl) (.int .i64 ph) (.int .i64 st) 26 by
    rw [hW3]
    exact (Five.newAt _ _ _ _ _ _ _ (w.heap.size + 1) s1.symm).below ((Below.refl (w.heap.size + 1 + 1) _).alloc (by rw [s2]; exact Nat.le_refl _) _) (by omega))
  have HZ := Lib.hid (show Two W3 (w.heap.size + 1 + 1) (.int .i64 a) (.int .i64 b) 28 by rw [hW3]; exact Two.newAt _ _ _ _ _ s2.symm)
  clear hB3 s1 s2
  have HK8 := Lib.hid hk8
  have HL8 := Lib.hid hl8
  have HFI := Lib.hid hf
  have HLL := Lib.hid (And.intro hk hll)
  have HTN := Lib.hid htn
  have HBT := Lib.hid hbt
  have HRE := Lib.hid hre
  have HBX := Lib.hid (And.intro bx1 (And.intro bx2 (And.intro bx3 bx5)))
  have HEF := Lib.hid hef
  have HBY := Lib.hid (And.intro by1 (And.intro by2 (And.intro he1 (And.intro he2 by5))))
  have HYL := Lib.hid hyl
  clear hk8 hl8 hf htn hbt hre hef hyl
  clear hk hll bx1 bx2 bx3 bx4 bx5 hz htn1 htd1 hpu hpv z1 z2 z3 z4 z5 hfok hpos hhas hex by1 by2 by3 by4 by5 he1 he2 heh hpe hpf y1 y2 y3 y4 y5 hl hl2
  go_enter Tryz.func3, Tryz.ntmps3
  go_upto_region 1 with fail
  rw [← hW3]
  clear hW3
  refine Lex.wp_region_mix (fun w' => Two w' w.heap.size (.slice A n c) (.slice B m d) 24 ∧ Five w' (w.heap.size + 1) (.int .i64 wl) (.int .i64 wh) (.int .i64 pl) (.int .i64 ph) (.int .i64 st) 26 ∧ Two w' (w.heap.size + 1 + 1) (.int .i64 a) (.int .i64 b) 28)
    [(0, 12), (1, 13), (2, 14), (3, 15), (4, 7), (5, 8)] (fun j => j == 0 || j == 2) (fun j => j == 4 || j == 5) [(6, false), (7, false)]
    (fun i v w' => match i with | 0 => v = .agg #[.int .i64 wl, .int .i64 wh, .int .i64 pl, .int .i64 ph, .int .i64 st] | 1 => v = .agg #[.int .i64 wl, .int .i64 w2, .int .i64 pl, .int .i64 p2, .int .i64 st] | 2 => v = .agg #[.slice A n c, .slice B m d] | 3 => ∃ A' c' B' d', v = (.agg #[.slice (some A') k c', .slice (some B') l d']) ∧ IntsT w' (some A') us ∧ IntsT w' (some B') vs | 4 => ∃ B, v = .pointer (some ⟨B, 0, none⟩) ∧ W3.heap.size ≤ B ∧ Five w' B (.int .i64 0) (.int .i64 0) (.int .i64 0) (.int .i64 0) (.int .i64 0) 26 | 5 => ∃ B, v = .pointer (some ⟨B, 0, none⟩) ∧ W3.heap.size ≤ B ∧ Two w' B (.slice none 0 0) (.slice none 0 0) 24 | _ => False)
    (by kernel_rfl) (by kernel_rfl) (by kernel_rfl) ⟨HF.out, HL.out, HZ.out⟩ (fun w1 w2 hS hb => ⟨hS.1.below hb hS.1.lt, hS.2.1.below hb hS.2.1.lt, hS.2.2.below hb hS.2.2.lt⟩) ?_ ?_ ?_
  · refine Lex.all_cons ?_ (Lex.all_cons ?_ (Lex.all_cons ?_ (Lex.all_cons ?_ (Lex.all_cons ?_ (Lex.all_cons ?_ (Lex.all_nil))))))
    · exact fun v w1 w2 h _ => h
    · exact fun v w1 w2 h _ => h
    · exact fun v w1 w2 h _ => h
    · exact fun v w1 w2 ⟨A', c', B', d', hv, h1, h2⟩ hb => ⟨A', c', B', d', hv, h1.below hb, h2.below hb⟩
    · exact fun v w1 w2 ⟨B, hv, hl, hT⟩ hb => ⟨B, hv, hl, hT.below hb hT.lt⟩
    · exact fun v w1 w2 ⟨B, hv, hl, hT⟩ hb => ⟨B, hv, hl, hT.below hb hT.lt⟩
  · refine Lex.all_cons ?_ (Lex.all_cons ?_ (Lex.all_cons ?_ (Lex.all_cons ?_ (Lex.all_cons ?_ (Lex.all_cons ?_ (Lex.all_nil))))))
    · refine Lex.ob_eager rfl rfl (fun σ w1 hS hB hg => ⟨.agg #[.int .i64 wl, .int .i64 wh, .int .i64 pl, .int .i64 ph, .int .i64 st], rfl, fun w2 hS => ?_, rfl⟩)
      clear hg
      simp only [Lex.full, Act.put, List.setIfInBounds_toArray, List.set_cons_zero, List.set_cons_succ]
      have f1_0 := hS.2.1.cell0
      have f1_1 := hS.2.1.cell1
      have f1_2 := hS.2.1.cell2
      have f1_3 := hS.2.1.cell3
      have f1_4 := hS.2.1.cell4
      clear hS
      go_simp
      all_goals with_reducible rfl
    · refine Lex.ob_step rfl rfl rfl (fun σ w1 hS hB hg K hK => ?_)
      have HK := Lib.hid hK
      clear hK
      have g0 : (σ 0) = .agg #[.int .i64 wl, .int .i64 wh, .int .i64 pl, .int .i64 ph, .int .i64 st] := hg (0, 12) (by simp) (by kernel_rfl)
      clear hg
      simp only [Lex.full, Act.put, List.setIfInBounds_toArray, List.set_cons_zero, List.set_cons_succ]
      simp only [g0]
      have hw1 : Below w.heap.size w w1 := HBW.out.drew.trans (hB.mono HBW.out.size)
      have cc := cn w1 hw1
      go_wp2_with fail
      refine cc.mono ?_
      rintro e w2 ⟨v1, rfl, rfl, hn⟩
      clear cc
      go_wp2_with fail
      exact HK.out _ _ ⟨rfl, hn, rfl, fun h => nomatch h⟩
    · refine Lex.ob_eager rfl rfl (fun σ w1 hS hB hg => ⟨.agg #[.slice A n c, .slice B m d], rfl, fun w2 hS => ?_, rfl⟩)
      clear hg
      simp only [Lex.full, Act.put, List.setIfInBounds_toArray, List.set_cons_zero, List.set_cons_succ]
      have f0_0 := hS.1.cell0
      have f0_1 := hS.1.cell1
      clear hS
      go_simp
      all_goals with_reducible rfl
    · refine Lex.ob_step rfl rfl rfl (fun σ w1 hS hB hg K hK => ?_)
      have HK := Lib.hid hK
      clear hK
      have g2 : (σ 2) = .agg #[.slice A n c, .slice B m d] := hg (2, 14) (by simp) (by kernel_rfl)
      clear hg
      simp only [Lex.full, Act.put, List.setIfInBounds_toArray, List.set_cons_zero, List.set_cons_succ]
      simp only [g2]
      have hw1 : Below w.heap.size w w1 := HBW.out.drew.trans (hB.mono HBW.out.size)
      have cc := cfw w1 hw1
      go_wp2_with fail
      refine cc.mono ?_
      rintro e w2 ⟨A', c', B', d', rfl, hI1, hI2, hn⟩
      clear cc
      go_wp2_with fail
      exact HK.out _ _ ⟨rfl, hn, ⟨A', c', B', d', rfl, hI1, hI2⟩, fun h => nomatch h⟩
    · refine Lex.ob_step rfl rfl rfl (fun σ w1 hS hB hg K hK => ?_)
      have HK := Lib.hid hK
      clear hK
      clear hg
      simp only [Lex.full, Act.put, List.setIfInBounds_toArray, List.set_cons_zero, List.set_cons_succ]
      go_wp2_with fail
      refine HK.out _ _ ⟨rfl, (Below.refl _ _).alloc (Nat.le_refl _) _, ⟨w1.heap.size, rfl, show W3.heap.size ≤ _ from hB.size, Five.newAt _ _ _ _ _ _ _ _ rfl⟩, fun _ => ?_⟩
      refine Lex.all_cons ?_ (Lex.all_cons ?_ (Lex.all_cons ?_ (Lex.all_cons ?_ (Lex.all_cons ?_ (Lex.all_cons ?_ (Lex.all_nil))))))
      · intro u h; cases h
      · intro u h; cases h
      · intro u h; cases h
      · intro u h; cases h
      · rintro u _ ⟨B, rfl, _, hT⟩ he; have := hT.lt; have he : Value.pointer (some ⟨B, 0, none⟩) = .pointer (some ⟨w1.heap.size, 0, none⟩) := he; injection he with he; injection he with he; injection he with he; omega
      · rintro u _ ⟨B, rfl, _, hT⟩ he; have := hT.lt; have he : Value.pointer (some ⟨B, 0, none⟩) = .pointer (some ⟨w1.heap.size, 0, none⟩) := he; injection he with he; injection he with he; injection he with he; omega
    · refine Lex.ob_step rfl rfl rfl (fun σ w1 hS hB hg K hK => ?_)
      have HK := Lib.hid hK
      clear hK
      clear hg
      simp only [Lex.full, Act.put, List.setIfInBounds_toArray, List.set_cons_zero, List.set_cons_succ]
      go_wp2_with fail
      refine HK.out _ _ ⟨rfl, (Below.refl _ _).alloc (Nat.le_refl _) _, ⟨w1.heap.size, rfl, show W3.heap.size ≤ _ from hB.size, Two.newAt _ _ _ _ _ rfl⟩, fun _ => ?_⟩
      refine Lex.all_cons ?_ (Lex.all_cons ?_ (Lex.all_cons ?_ (Lex.all_cons ?_ (Lex.all_cons ?_ (Lex.all_cons ?_ (Lex.all_nil))))))
      · intro u h; cases h
      · intro u h; cases h
      · intro u h; cases h
      · intro u h; cases h
      · rintro u _ ⟨B, rfl, _, hT⟩ he; have := hT.lt; have he : Value.pointer (some ⟨B, 0, none⟩) = .pointer (some ⟨w1.heap.size, 0, none⟩) := he; injection he with he; injection he with he; injection he with he; omega
      · rintro u _ ⟨B, rfl, _, hT⟩ he; have := hT.lt; have he : Value.pointer (some ⟨B, 0, none⟩) = .pointer (some ⟨w1.heap.size, 0, none⟩) := he; injection he with he; injection he with he; injection he with he; omega
  · intro σ V1_ hS hB hg hd
    have e0 : (σ 0) = .agg #[.int .i64 wl, .int .i64 wh, .int .i64 pl, .int .i64 ph, .int .i64 st] := hg (0, 12) (by simp)
    have e1 : (σ 1) = .agg #[.int .i64 wl, .int .i64 w2, .int .i64 pl, .int .i64 p2, .int .i64 st] := hg (1, 13) (by simp)
    have e2 : (σ 2) = .agg #[.slice A n c, .slice B m d] := hg (2, 14) (by simp)
    have e3 : ∃ A' c' B' d', (σ 3) = (.agg #[.slice (some A') k c', .slice (some B') l d']) ∧ IntsT V1_ (some A') us ∧ IntsT V1_ (some B') vs := hg (3, 15) (by simp)
    have e4 : ∃ B, (σ 4) = .pointer (some ⟨B, 0, none⟩) ∧ W3.heap.size ≤ B ∧ Five V1_ B (.int .i64 0) (.int .i64 0) (.int .i64 0) (.int .i64 0) (.int .i64 0) 26 := hg (4, 7) (by simp)
    have e5 : ∃ B, (σ 5) = .pointer (some ⟨B, 0, none⟩) ∧ W3.heap.size ≤ B ∧ Two V1_ B (.slice none 0 0) (.slice none 0 0) 24 := hg (5, 8) (by simp)
    have n1_4_5 : σ 4 ≠ σ 5 := hd (4, 7) (by simp) (5, 8) (by simp) (by decide) rfl rfl
    clear hg hd
    simp only [Lex.full, Act.put, List.setIfInBounds_toArray, List.set_cons_zero, List.set_cons_succ]
    generalize σ 0 = s1_0 at *
    generalize σ 1 = s1_1 at *
    generalize σ 2 = s1_2 at *
    generalize σ 3 = s1_3 at *
    generalize σ 4 = s1_4 at *
    generalize σ 5 = s1_5 at *
    clear σ
    subst e0
    subst e1
    subst e2
    obtain ⟨A', c', B', d', rfl, hI1, hI2⟩ := e3
    obtain ⟨B1_4, rfl, l1_4, T4⟩ := e4
    have HT1_4 := Lib.hid T4
    clear T4
    obtain ⟨B1_5, rfl, l1_5, T5⟩ := e5
    have HT1_5 := Lib.hid T5
    clear T5
    replace n1_4_5 : B1_4 ≠ B1_5 := fun e => n1_4_5 (by rw [e])
    have HBm := Lib.hid (show Below w.heap.size w V1_ from HBW.out.drew.trans (hB.mono HBW.out.size))
    have HBb := Lib.hid (show Below W3.heap.size W3 V1_ from ⟨hB.os, hB.tape, hB.output, hB.size, hB.block⟩)
    have HSm := Lib.hid hS
    clear hB hS
    have l1_x := HF.out.lt
    have G1_x := Lib.hid HSm.out.1
    have l1_y := HL.out.lt
    have G1_y := Lib.hid HSm.out.2.1
    have l1_z := HZ.out.lt
    have G1_z := Lib.hid HSm.out.2.2
    have lw1 := HBW.out.size
    clear HSm HBb HF HL HZ HBW
    have Y1_i1 := Lib.hid hI1
    clear hI1
    have Y1_i2 := Lib.hid hI2
    clear hI2
    refine Lex.lex_do rfl ?_
    have r0 := HT1_4.out.cell0
    have g0 := HT1_4.out.free 0
    have r1 := HT1_4.out.cell1
    have g1 := HT1_4.out.free 1
    have r2 := HT1_4.out.cell2
    have g2 := HT1_4.out.free 2
    have r3 := HT1_4.out.cell3
    have g3 := HT1_4.out.free 3
    have r4 := HT1_4.out.cell4
    have g4 := HT1_4.out.free 4
    obtain ⟨V1_s1, hV1⟩ : ∃ V1_s1, V1_s1 = (((((V1_.setCell ⟨B1_4, 0, none⟩ (.int .i64 wl)).setCell ⟨B1_4, 1, none⟩ (.int .i64 w2)).setCell ⟨B1_4, 2, none⟩ (.int .i64 pl)).setCell ⟨B1_4, 3, none⟩ (.int .i64 p2)).setCell ⟨B1_4, 4, none⟩ (.int .i64 st)) := ⟨_, rfl⟩
    have HV1 := Lib.hid hV1
    clear hV1
    go_wp2_with fail
    rw [← HV1.out]
    clear r0 g0 r1 g1 r2 g2 r3 g3 r4 g4
    have G1_xs := Lib.hid (show Two V1_s1 w.heap.size (.slice A n c) (.slice B m d) 24 by rw [HV1.out]; exact (((((G1_x.out.setOther ⟨B1_4, 0, none⟩ _ (by dsimp only; omega)).setOther ⟨B1_4, 1, none⟩ _ (by dsimp only; omega)).setOther ⟨B1_4, 2, none⟩ _ (by dsimp only; omega)).setOther ⟨B1_4, 3, none⟩ _ (by dsimp only; omega)).setOther ⟨B1_4, 4, none⟩ _ (by dsimp only; omega)))
    have G1_ys := Lib.hid (show Five V1_s1 (w.heap.size + 1) (.int .i64 wl) (.int .i64 wh) (.int .i64 pl) (.int .i64 ph) (.int .i64 st) 26 by rw [HV1.out]; exact (((((G1_y.out.setOther ⟨B1_4, 0, none⟩ _ (by dsimp only; omega)).setOther ⟨B1_4, 1, none⟩ _ (by dsimp only; omega)).setOther ⟨B1_4, 2, none⟩ _ (by dsimp only; omega)).setOther ⟨B1_4, 3, none⟩ _ (by dsimp only; omega)).setOther ⟨B1_4, 4, none⟩ _ (by dsimp only; omega)))
    have G1_zs := Lib.hid (show Two V1_s1 (w.heap.size + 1 + 1) (.int .i64 a) (.int .i64 b) 28 by rw [HV1.out]; exact (((((G1_z.out.setOther ⟨B1_4, 0, none⟩ _ (by dsimp only; omega)).setOther ⟨B1_4, 1, none⟩ _ (by dsimp only; omega)).setOther ⟨B1_4, 2, none⟩ _ (by dsimp only; omega)).setOther ⟨B1_4, 3, none⟩ _ (by dsimp only; omega)).setOther ⟨B1_4, 4, none⟩ _ (by dsimp only; omega)))
    replace HT1_5 := Lib.hid (show Two V1_s1 _ _ _ _ by rw [HV1.out]; exact (((((HT1_5.out.setOther ⟨B1_4, 0, none⟩ _ (by dsimp only; omega)).setOther ⟨B1_4, 1, none⟩ _ (by dsimp only; omega)).setOther ⟨B1_4, 2, none⟩ _ (by dsimp only; omega)).setOther ⟨B1_4, 3, none⟩ _ (by dsimp only; omega)).setOther ⟨B1_4, 4, none⟩ _ (by dsimp only; omega)))
    have G1_l := Lib.hid (show Five V1_s1 B1_4 (.int .i64 wl) (.int .i64 w2) (.int .i64 pl) (.int .i64 p2) (.int .i64 st) 26 by rw [HV1.out]; exact (((((HT1_4.out).set0 _).set1 _).set2 _).set3 _).set4 _)
    have Y1_i1s := Lib.hid (show IntsT V1_s1 (some A') us by rw [HV1.out]; exact IntsT.set5 Y1_i1.out HT1_4.out (by decide) _ _ _ _ _)
    clear Y1_i1
    have Y1_i2s := Lib.hid (show IntsT V1_s1 (some B') vs by rw [HV1.out]; exact IntsT.set5 Y1_i2.out HT1_4.out (by decide) _ _ _ _ _)
    clear Y1_i2
    have HB1_1 := Lib.hid (show Below w.heap.size w V1_s1 by rw [HV1.out]; exact (((((HBm.out.setCell (by dsimp only; omega) _).setCell (by dsimp only; omega) _).setCell (by dsimp only; omega) _).setCell (by dsimp only; omega) _).setCell (by dsimp only; omega) _))
    clear HV1 HT1_4 HBm G1_x G1_y G1_z
    refine Lex.lexQ_normal (fun _ => ⟨G1_xs.out, G1_ys.out, G1_zs.out⟩) ?_
    refine Lex.lex_do rfl ?_
    have r0 := HT1_5.out.cell0
    have g0 := HT1_5.out.free 0
    have r1 := HT1_5.out.cell1
    have g1 := HT1_5.out.free 1
    obtain ⟨V1_s2, hV1⟩ : ∃ V1_s2, V1_s2 = ((V1_s1.setCell ⟨B1_5, 0, none⟩ ((.slice (some A') k c'))).setCell ⟨B1_5, 1, none⟩ ((.slice (some B') l d'))) := ⟨_, rfl⟩
    have HV1 := Lib.hid hV1
    clear hV1
    go_wp2_with fail
    rw [← HV1.out]
    clear r0 g0 r1 g1
    have G1_xss := Lib.hid (show Two V1_s2 w.heap.size (.slice A n c) (.slice B m d) 24 by rw [HV1.out]; exact ((G1_xs.out.setOther ⟨B1_5, 0, none⟩ _ (by dsimp only; omega)).setOther ⟨B1_5, 1, none⟩ _ (by dsimp only; omega)))
    have G1_yss := Lib.hid (show Five V1_s2 (w.heap.size + 1) (.int .i64 wl) (.int .i64 wh) (.int .i64 pl) (.int .i64 ph) (.int .i64 st) 26 by rw [HV1.out]; exact ((G1_ys.out.setOther ⟨B1_5, 0, none⟩ _ (by dsimp only; omega)).setOther ⟨B1_5, 1, none⟩ _ (by dsimp only; omega)))
    have G1_zss := Lib.hid (show Two V1_s2 (w.heap.size + 1 + 1) (.int .i64 a) (.int .i64 b) 28 by rw [HV1.out]; exact ((G1_zs.out.setOther ⟨B1_5, 0, none⟩ _ (by dsimp only; omega)).setOther ⟨B1_5, 1, none⟩ _ (by dsimp only; omega)))
    have G1_ls := Lib.hid (show Five V1_s2 B1_4 (.int .i64 wl) (.int .i64 w2) (.int .i64 pl) (.int .i64 p2) (.int .i64 st) 26 by rw [HV1.out]; exact ((G1_l.out.setOther ⟨B1_5, 0, none⟩ _ (by dsimp only; omega)).setOther ⟨B1_5, 1, none⟩ _ (by dsimp only; omega)))
    have G1_u := Lib.hid (show Two V1_s2 B1_5 (.slice (some A') k c') (.slice (some B') l d') 24 by rw [HV1.out]; exact (HT1_5.out.set0 _).set1 _)
    have Y1_i1ss := Lib.hid (show IntsT V1_s2 (some A') us by rw [HV1.out]; exact IntsT.set01 Y1_i1s.out HT1_5.out (by decide) _ _)
    clear Y1_i1s
    have Y1_i2ss := Lib.hid (show IntsT V1_s2 (some B') vs by rw [HV1.out]; exact IntsT.set01 Y1_i2s.out HT1_5.out (by decide) _ _)
    clear Y1_i2s
    have HB1_2 := Lib.hid (show Below w.heap.size w V1_s2 by rw [HV1.out]; exact ((HB1_1.out.setCell (by dsimp only; omega) _).setCell (by dsimp only; omega) _))
    clear HV1 HT1_5 HB1_1 G1_xs G1_ys G1_zs G1_l
    refine Lex.lexQ_normal (fun _ => ⟨G1_xss.out, G1_yss.out, G1_zss.out⟩) ?_
    refine Lex.lex_nil ?_
    clear G1_xss G1_yss
    clear cn cfw
    have cg : ∀ W (_ : Below w.heap.size w W) (_ : Below V1_s2.heap.size V1_s2 W), Calls Tryz.prog 15 #[(.agg #[.slice (some A') k c', .slice (some B') l d']), .agg #[.int .i64 wl, .int .i64 w2, .int .i64 pl, .int .i64 p2, .int .i64 st]] W (RetW (.bool true) W) := fun W _ hb => (rfits_any (some A') k c' (some B') l d' us vs wl w2 pl p2 st (true, ()) W (Y1_i1ss.out.1.below hb) (Y1_i2ss.out.1.below hb) HLL.out.1 HLL.out.2 (by rw [← HLL.out.1]; exact HK8.out) (by rw [← HLL.out.2]; exact HL8.out) (decide_eq_true HFI.out)).mono fun e w' h => RetW.of h
    have hkl : l = k := by rw [← HLL.out.1, ← HLL.out.2]; exact HBX.out.2.2.1.symm
    have crr : ∀ W (_ : Below w.heap.size w W) (_ : Below V1_s2.heap.size V1_s2 W), Calls Tryz.prog 17 #[(.agg #[.slice (some A') k c', .slice (some B') l d'])] W (RetRQ tn td (5 + 12 * k + 1) W) := fun W _ hb => by
      subst hkl
      have := rratio_list (some A') l c' (some B') d' us vs W (Y1_i1ss.out.1.below hb) (Y1_i2ss.out.1.below hb) HLL.out.1 HLL.out.2 (by rw [← HLL.out.1]; have := HBX.out.2.2.2; omega) HBX.out.1 HBX.out.2.1
      have e1 : prodL us / (Int.gcd (prodL us) (prodL vs) : Nat) = tn := congrArg Prod.fst HRE.out
      have e2 : prodL vs / (Int.gcd (prodL us) (prodL vs) : Nat) = td := congrArg Prod.snd HRE.out
      rw [e1, e2] at this
      exact this
    have cbt0 : ∀ (g1 h1 g2 h2 : Nat), ∀ W (_ : Below w.heap.size w W) (_ : Below V1_s2.heap.size V1_s2 W) (_ : Ints .i64 W (some ⟨g1, 0, none⟩) eu) (_ : Ints .i64 W (some ⟨g2, 0, none⟩) ev), Calls Tryz.prog 23 #[(.agg #[.slice (some A') k c', .slice (some B') l d']), (.agg #[.slice (some ⟨g1, 0, none⟩) e1 h1, .slice (some ⟨g2, 0, none⟩) e1 h2])] W (RetW (.bool false) W) := fun g1 h1 g2 h2 W _ hb j1 j2 => by
      subst hkl
      exact (rbetter_any (some A') l c' (some B') d' (some ⟨g1, 0, none⟩) e1 h1 (some ⟨g2, 0, none⟩) h2 us vs eu ev (false, ()) W (Y1_i1ss.out.1.below hb) (Y1_i2ss.out.1.below hb) j1 j2 HLL.out.1 HLL.out.2 HBY.out.2.2.1 HBY.out.2.2.2.1 (by rw [← HLL.out.1]; have := HBX.out.2.2.2; omega) (by rw [← HBY.out.2.2.1]; have := HBY.out.2.2.2.2; omega) HBX.out.1 HBX.out.2.1 HBY.out.1 HBY.out.2.1 HBT.out).mono fun e w' h => RetW.of h
    have HCB := Lib.hid cbt0
    clear cbt0
    clear hkl
    have HRU := Lib.hid (Below.refl V1_s2.heap.size V1_s2)
    clear Y1_i1ss Y1_i2ss
    clear HK8 HL8 HFI HLL HTN HBT HRE HBX
    have k0_0 := G1_ls.out.cell0
    have k0_1 := G1_ls.out.cell1
    have k0_2 := G1_ls.out.cell2
    have k0_3 := G1_ls.out.cell3
    have k0_4 := G1_ls.out.cell4
    have hb20 := Below.refl V1_s2.heap.size V1_s2
    have hw20 := HB1_2.out
    have cc := clim V1_s2 hw20
    go_wp2_with fail
    refine cc.mono ?_
    rintro e V21 ⟨v21, rfl, hm21, hn21⟩
    have hb21 := hb20.trans (hn21.mono hb20.size)
    have hw21 := hw20.trans (hn21.mono hw20.size)
    subst hm21
    clear cc hb20 hw20 hn21
    clear k0_0 k0_1 k0_2 k0_3 k0_4
    have k0_0 := (G1_ls.out.below hb21 G1_ls.out.lt).cell0
    have k0_1 := (G1_ls.out.below hb21 G1_ls.out.lt).cell1
    have k0_2 := (G1_ls.out.below hb21 G1_ls.out.lt).cell2
    have k0_3 := (G1_ls.out.below hb21 G1_ls.out.lt).cell3
    have k0_4 := (G1_ls.out.below hb21 G1_ls.out.lt).cell4
    clear k0_0 k0_1 k0_2 k0_3 k0_4
    have F3_z := Lib.hid (G1_zss.out.below hb21 G1_zss.out.lt)
    have F3_l := Lib.hid (G1_ls.out.below hb21 G1_ls.out.lt)
    have F3_u := Lib.hid (G1_u.out.below hb21 G1_u.out.lt)
    have R3_u := Lib.hid (HRU.out.trans (hb21.mono HRU.out.size))
    have B3_ := Lib.hid hw21
    clear hb21 hw21 G1_zss G1_ls G1_u HB1_2 HRU
    have HSZ := Lib.hid R3_u.out.size
    clear clim
    have q0_0 := F3_z.out.cell0
    have q0_1 := F3_z.out.cell1
    have hb0_ := Below.refl V21.heap.size V21
    have hw0_ := B3_.out
    obtain ⟨NB_, hNB⟩ : ∃ NB_, NB_ = V21.heap.size := ⟨_, rfl⟩
    obtain ⟨U4, hU⟩ : ∃ U4, U4 = V21.alloc (.cells #[.int .i64 a, .int .i64 b] 28) := ⟨_, rfl⟩
    have HU := Lib.hid (show U4 = _ ∧ NB_ = _ from ⟨hU, hNB⟩)
    clear hU hNB
    go_upto_region 5 with fail
    clear q0_0 q0_1
    rw [← HU.out.2, ← HU.out.1]
    have hbU := hb0_.alloc hb0_.size (.cells #[.int .i64 a, .int .i64 b] 28)
    have hwU := hw0_.alloc hw0_.size (.cells #[.int .i64 a, .int .i64 b] 28)
    rw [← HU.out.1] at hbU hwU
    have F4_z := Lib.hid (F3_z.out.below hbU F3_z.out.lt)
    have F4_l := Lib.hid (F3_l.out.below hbU F3_l.out.lt)
    have F4_u := Lib.hid (F3_u.out.below hbU F3_u.out.lt)
    have O4_z := Lib.hid (show (w.heap.size + 1 + 1) < NB_ by rw [HU.out.2]; exact (F3_z.out.below hb0_ F3_z.out.lt).lt)
    have O4_l := Lib.hid (show B1_4 < NB_ by rw [HU.out.2]; exact (F3_l.out.below hb0_ F3_l.out.lt).lt)
    have O4_u := Lib.hid (show B1_5 < NB_ by rw [HU.out.2]; exact (F3_u.out.below hb0_ F3_u.out.lt).lt)
    have OW4 := Lib.hid (show w.heap.size ≤ NB_ by rw [HU.out.2]; exact hw0_.size)
    have F4_t := Lib.hid (show Two U4 NB_ (.int .i64 a) (.int .i64 b) 28 by rw [HU.out.1, HU.out.2]; exact Two.newAt _ _ _ _ _ rfl)
    have R4_u := Lib.hid (R3_u.out.trans (hbU.mono R3_u.out.size))
    have OV4 := Lib.hid (show Below V21.heap.size V21 U4 by rw [HU.out.1]; exact (Below.refl _ _).alloc (Nat.le_refl _) _)
    have OE4 := Lib.hid (show V21.heap.size ≤ NB_ by rw [HU.out.2]; exact Nat.le_refl _)
    have B4_ := Lib.hid hwU
    clear HU hbU hwU hb0_ hw0_ F3_z F3_l F3_u B3_ R3_u
    have HUV := Lib.hid (show V1_s2.heap.size ≤ NB_ from Nat.le_trans HSZ.out OE4.out)
    clear HSZ OV4 OE4
    clear F4_z
    have k0_0 := F4_u.out.cell0
    have k0_1 := F4_u.out.cell1
    have k1_0 := F4_l.out.cell0
    have k1_1 := F4_l.out.cell1
    have k1_2 := F4_l.out.cell2
    have k1_3 := F4_l.out.cell3
    have k1_4 := F4_l.out.cell4
    have hb50 := Below.refl U4.heap.size U4
    have hw50 := B4_.out
    have cc := cg U4 hw50 (R4_u.out.trans (hb50.mono R4_u.out.size))
    go_wp2_with fail
    refine cc.mono ?_
    rintro e V51 ⟨v51, rfl, hm51, hn51⟩
    have hb51 := hb50.trans (hn51.mono hb50.size)
    have hw51 := hw50.trans (hn51.mono hw50.size)
    subst hm51
    clear cc hb50 hw50 hn51
    clear k0_0 k0_1 k1_0 k1_1 k1_2 k1_3 k1_4
    have k0_0 := (F4_u.out.below hb51 F4_u.out.lt).cell0
    have k0_1 := (F4_u.out.below hb51 F4_u.out.lt).cell1
    have k1_0 := (F4_l.out.below hb51 F4_l.out.lt).cell0
    have k1_1 := (F4_l.out.below hb51 F4_l.out.lt).cell1
    have k1_2 := (F4_l.out.below hb51 F4_l.out.lt).cell2
    have k1_3 := (F4_l.out.below hb51 F4_l.out.lt).cell3
    have k1_4 := (F4_l.out.below hb51 F4_l.out.lt).cell4
    go_upto_region 6 with fail
    clear k0_0 k0_1 k1_0 k1_1 k1_2 k1_3 k1_4
    have F6_l := Lib.hid (F4_l.out.below hb51 F4_l.out.lt)
    have F6_u := Lib.hid (F4_u.out.below hb51 F4_u.out.lt)
    have F6_t := Lib.hid (F4_t.out.below hb51 F4_t.out.lt)
    have R6_u := Lib.hid (R4_u.out.trans (hb51.mono R4_u.out.size))
    have B6_ := Lib.hid hw51
    clear hb51 hw51 F4_l F4_u F4_t B4_ R4_u
    have k0_0 := F6_u.out.cell0
    have k0_1 := F6_u.out.cell1
    have hb70 := Below.refl V51.heap.size V51
    have hw70 := B6_.out
    have cc := crr V51 hw70 (R6_u.out.trans (hb70.mono R6_u.out.size))
    go_wp2_with fail
    refine cc.mono ?_
    rintro e V71 ⟨v71, rfl, hm71, hn71⟩
    have hb71 := hb70.trans (hn71.mono hb70.size)
    have hw71 := hw70.trans (hn71.mono hw70.size)
    clear cc hb70 hw70 hn71
    clear k0_0 k0_1
    have k0_0 := (F6_u.out.below hb71 F6_u.out.lt).cell0
    have k0_1 := (F6_u.out.below hb71 F6_u.out.lt).cell1
    have cc := cfr V71 hw71 _ hm71
    go_wp2_with fail
    refine cc.mono ?_
    rintro e V72 ⟨v72, rfl, hm72, hn72⟩
    have hb72 := hb71.trans (hn72.mono hb71.size)
    have hw72 := hw71.trans (hn72.mono hw71.size)
    clear hm71
    subst hm72
    clear cc hb71 hw71 hn72
    clear k0_0 k0_1
    have k0_0 := (F6_u.out.below hb72 F6_u.out.lt).cell0
    have k0_1 := (F6_u.out.below hb72 F6_u.out.lt).cell1
    clear k0_0 k0_1
    have F8_l := Lib.hid (F6_l.out.below hb72 F6_l.out.lt)
    have F8_u := Lib.hid (F6_u.out.below hb72 F6_u.out.lt)
    have F8_t := Lib.hid (F6_t.out.below hb72 F6_t.out.lt)
    have R8_u := Lib.hid (R6_u.out.trans (hb72.mono R6_u.out.size))
    have B8_ := Lib.hid hw72
    clear hb72 hw72 F6_l F6_u F6_t B6_ R6_u
    have r0 := F8_t.out.cell0
    have q0 := F8_t.out.free 0
    have r1 := F8_t.out.cell1
    have q1 := F8_t.out.free 1
    obtain ⟨VS_, hVS⟩ : ∃ VS_, VS_ = (V72.setCell ⟨NB_, 0, none⟩ (.int .i64 tn)).setCell ⟨NB_, 1, none⟩ (.int .i64 td) := ⟨_, rfl⟩
    have HVS := Lib.hid hVS
    clear hVS
    go_upto_region 7 with fail
    rw [← HVS.out]
    have Fu := Lib.hid (show Two VS_ B1_5 (.slice (some A') k c') (.slice (some B') l d') 24 by rw [HVS.out]; exact (F8_u.out.setOther ⟨NB_, 0, none⟩ _ (by dsimp only; have := O4_u.out; omega)).setOther ⟨NB_, 1, none⟩ _ (by dsimp only; have := O4_u.out; omega))
    have Fl := Lib.hid (show Five VS_ B1_4 (.int .i64 wl) (.int .i64 w2) (.int .i64 pl) (.int .i64 p2) (.int .i64 st) 26 by rw [HVS.out]; exact (F8_l.out.setOther ⟨NB_, 0, none⟩ _ (by dsimp only; have := O4_l.out; omega)).setOther ⟨NB_, 1, none⟩ _ (by dsimp only; have := O4_l.out; omega))
    have Ft := Lib.hid (show Two VS_ NB_ (.int .i64 tn) (.int .i64 td) 28 by rw [HVS.out]; exact (F8_t.out.set0 _).set1 _)
    have Fb := Lib.hid (show Below w.heap.size w VS_ by rw [HVS.out]; exact (B8_.out.setCell (by dsimp only; exact OW4.out) _).setCell (by dsimp only; exact OW4.out) _)
    have Fr := Lib.hid (show Below V1_s2.heap.size V1_s2 VS_ by rw [HVS.out]; exact (R8_u.out.setCell (by dsimp only; exact HUV.out) _).setCell (by dsimp only; exact HUV.out) _)
    clear HVS r0 q0 r1 q1 F8_u F8_l F8_t B8_ R8_u
    clear crr cfr
    have k0_0 := Ft.out.cell0
    have k0_1 := Ft.out.cell1
    have hb90 := Below.refl VS_.heap.size VS_
    have hw90 := Fb.out
    have cc := cv VS_ hw90
    go_wp2_with fail
    refine cc.mono ?_
    rintro e V91 ⟨v91, rfl, hm91, hn91⟩
    have hb91 := hb90.trans (hn91.mono hb90.size)
    have hw91 := hw90.trans (hn91.mono hw90.size)
    subst hm91
    clear cc hb90 hw90 hn91
    clear k0_0 k0_1
    have k0_0 := (Ft.out.below hb91 Ft.out.lt).cell0
    have k0_1 := (Ft.out.below hb91 Ft.out.lt).cell1
    go_upto_region 9 with fail
    clear k0_0 k0_1
    have F10_u := Lib.hid (Fu.out.below hb91 Fu.out.lt)
    have F10_l := Lib.hid (Fl.out.below hb91 Fl.out.lt)
    have F10_t := Lib.hid (Ft.out.below hb91 Ft.out.lt)
    have R10_u := Lib.hid (Fr.out.trans (hb91.mono Fr.out.size))
    have B10_ := Lib.hid hw91
    clear hb91 hw91 Fu Fl Ft Fb Fr
    clear cv d1
    have q0_0 := F10_t.out.cell0
    have q0_1 := F10_t.out.cell1
    have q1_0 := F10_l.out.cell0
    have q1_1 := F10_l.out.cell1
    have q1_2 := F10_l.out.cell2
    have q1_3 := F10_l.out.cell3
    have q1_4 := F10_l.out.cell4
    have cc := cex V91 B10_.out
    go_wp2_with fail
    refine cc.mono ?_
    rintro e VX ⟨g1, h1, g2, h2, rfl, hx1, hx2, hnx⟩
    have hwx := B10_.out.trans (hnx.mono B10_.out.size)
    clear cc cex
    have HXI := Lib.hid (And.intro hx1 hx2)
    clear hx1 hx2
    have cfu : ∀ W (_ : Below w.heap.size w W) (_ : Below VX.heap.size VX W), Calls Tryz.prog 15 #[(.agg #[.slice (some ⟨g1, 0, none⟩) e1 h1, .slice (some ⟨g2, 0, none⟩) e1 h2]), .agg #[.int .i64 wl, .int .i64 w2, .int .i64 pl, .int .i64 p2, .int .i64 st]] W (RetW (.bool true) W) := fun W _ hb => (rfits_any (some ⟨g1, 0, none⟩) e1 h1 (some ⟨g2, 0, none⟩) e1 h2 eu ev wl w2 pl p2 st (true, ()) W (HXI.out.1.below hb) (HXI.out.2.below hb) HBY.out.2.2.1 HBY.out.2.2.2.1 (by rw [← HBY.out.2.2.1]; have := HBY.out.2.2.2.2; omega) (by rw [← HBY.out.2.2.1]; have := HBY.out.2.2.2.2; omega) (decide_eq_true HEF.out)).mono fun e w' h => RetW.of h
    have cru : ∀ W (_ : Below w.heap.size w W) (_ : Below VX.heap.size VX W), Calls Tryz.prog 17 #[(.agg #[.slice (some ⟨g1, 0, none⟩) e1 h1, .slice (some ⟨g2, 0, none⟩) e1 h2])] W (RetRQ tn td (5 + 12 * e1 + 1) W) := fun W _ hb => by
      have := rratio_list (some ⟨g1, 0, none⟩) e1 h1 (some ⟨g2, 0, none⟩) h2 eu ev W (HXI.out.1.below hb) (HXI.out.2.below hb) HBY.out.2.2.1 HBY.out.2.2.2.1 (by rw [← HBY.out.2.2.1]; have := HBY.out.2.2.2.2; omega) HBY.out.1 HBY.out.2.1
      have e1 : prodL eu / (Int.gcd (prodL eu) (prodL ev) : Nat) = tn := congrArg Prod.fst HYL.out
      have e2 : prodL ev / (Int.gcd (prodL eu) (prodL ev) : Nat) = td := congrArg Prod.snd HYL.out
      rw [e1, e2] at this
      exact this
    have cbt : ∀ W (_ : Below w.heap.size w W) (_ : Below V1_s2.heap.size V1_s2 W) (_ : Below VX.heap.size VX W), Calls Tryz.prog 23 #[(.agg #[.slice (some A') k c', .slice (some B') l d']), (.agg #[.slice (some ⟨g1, 0, none⟩) e1 h1, .slice (some ⟨g2, 0, none⟩) e1 h2])] W (RetW (.bool false) W) := fun W h1' h2' hb => HCB.out g1 h1 g2 h2 W h1' h2' (HXI.out.1.below hb) (HXI.out.2.below hb)
    clear HCB
    clear HXI HBY HEF HYL
    clear q0_0 q0_1 q1_0 q1_1 q1_2 q1_3 q1_4
    have F11_u := Lib.hid (F10_u.out.below hnx F10_u.out.lt)
    have F11_l := Lib.hid (F10_l.out.below hnx F10_l.out.lt)
    have F11_t := Lib.hid (F10_t.out.below hnx F10_t.out.lt)
    have R11_u := Lib.hid (R10_u.out.trans (hnx.mono R10_u.out.size))
    have B11_ := Lib.hid hwx
    clear hnx hwx F10_u F10_l F10_t B10_ R10_u
    have HRX := Lib.hid (Below.refl VX.heap.size VX)
    have hb0_ := Below.refl VX.heap.size VX
    have hw0_ := B11_.out
    obtain ⟨N12, hNB⟩ : ∃ N12, N12 = VX.heap.size := ⟨_, rfl⟩
    obtain ⟨U12, hU⟩ : ∃ U12, U12 = VX.alloc (.cells #[.slice (some ⟨g1, 0, none⟩) e1 h1, .slice (some ⟨g2, 0, none⟩) e1 h2] 24) := ⟨_, rfl⟩
    have HU := Lib.hid (show U12 = _ ∧ N12 = _ from ⟨hU, hNB⟩)
    clear hU hNB
    go_upto_region 10 with fail
    rw [← HU.out.2, ← HU.out.1]
    have hbU := hb0_.alloc hb0_.size (.cells #[.slice (some ⟨g1, 0, none⟩) e1 h1, .slice (some ⟨g2, 0, none⟩) e1 h2] 24)
    have hwU := hw0_.alloc hw0_.size (.cells #[.slice (some ⟨g1, 0, none⟩) e1 h1, .slice (some ⟨g2, 0, none⟩) e1 h2] 24)
    rw [← HU.out.1] at hbU hwU
    have F12_u := Lib.hid (F11_u.out.below hbU F11_u.out.lt)
    have F12_l := Lib.hid (F11_l.out.below hbU F11_l.out.lt)
    have F12_t := Lib.hid (F11_t.out.below hbU F11_t.out.lt)
    have F12_U := Lib.hid (show Two U12 N12 (.slice (some ⟨g1, 0, none⟩) e1 h1) (.slice (some ⟨g2, 0, none⟩) e1 h2) 24 by rw [HU.out.1, HU.out.2]; exact Two.newAt _ _ _ _ _ rfl)
    have R12_u := Lib.hid (R11_u.out.trans (hbU.mono R11_u.out.size))
    have R12_x := Lib.hid (HRX.out.trans (hbU.mono HRX.out.size))
    have B12_ := Lib.hid hwU
    clear HU hbU hwU hb0_ hw0_ F11_u F11_l F11_t B11_ R11_u HRX
    go_upto_region 12 with fail
    refine Lex.wp_region_lex (fun w' => Two w' N12 (.slice (some ⟨g1, 0, none⟩) e1 h1) (.slice (some ⟨g2, 0, none⟩) e1 h2) 24 ∧ Five w' B1_4 (.int .i64 wl) (.int .i64 w2) (.int .i64 pl) (.int .i64 p2) (.int .i64 st) 26 ∧ Two w' NB_ (.int .i64 tn) (.int .i64 td) 28) (fun _ => true)
      [(0, true), (1, true), (2, false), (3, false), (4, false), (5, true), (7, true), (6, false), (8, false), (9, false), (10, false), (11, false), (12, false), (13, false), (14, false), (15, false)]
      (by kernel_rfl) (by kernel_rfl) (by kernel_rfl) (by kernel_rfl) ⟨F12_U.out, F12_l.out, F12_t.out⟩ ?_
    have hb130 : Below U12.heap.size U12 U12.drew := ⟨rfl, rfl, rfl, Nat.le_refl _, fun _ _ => rfl⟩
    have hw130 : Below w.heap.size w U12.drew := ⟨B12_.out.os, B12_.out.tape, B12_.out.output, B12_.out.size, B12_.out.block⟩
    generalize hV0 : U12.drew = V130 at *
    clear hV0
    refine Lex.lex_take (v := ?_) rfl rfl (by rfl) (fun _ hS => ?_) ?_; rotate_left 1; (focus (have g0_0 := hS.1.cell0; have g0_1 := hS.1.cell1; have g1_0 := hS.2.1.cell0; have g1_1 := hS.2.1.cell1; have g1_2 := hS.2.1.cell2; have g1_3 := hS.2.1.cell3; have g1_4 := hS.2.1.cell4; have g2_0 := hS.2.2.cell0; have g2_1 := hS.2.2.cell1; clear hS; go_simp; with_reducible rfl)); simp only [List.setIfInBounds_toArray, List.set_cons_zero, List.set_cons_succ]
    refine Lex.lex_take (v := ?_) rfl rfl (by rfl) (fun _ hS => ?_) ?_; rotate_left 1; (focus (have g0_0 := hS.1.cell0; have g0_1 := hS.1.cell1; have g1_0 := hS.2.1.cell0; have g1_1 := hS.2.1.cell1; have g1_2 := hS.2.1.cell2; have g1_3 := hS.2.1.cell3; have g1_4 := hS.2.1.cell4; have g2_0 := hS.2.2.cell0; have g2_1 := hS.2.2.cell1; clear hS; go_simp; with_reducible rfl)); simp only [List.setIfInBounds_toArray, List.set_cons_zero, List.set_cons_succ]
    refine Lex.lex_do rfl ?_
    have cc := cfu V130 hw130 (R12_x.out.trans (hb130.mono R12_x.out.size))
    go_wp2_with fail
    refine cc.mono ?_
    rintro e V131 ⟨v131, rfl, hm131, hn131⟩
    have hb131 := hb130.trans (hn131.mono hb130.size)
    have hw131 := hw130.trans (hn131.mono hw130.size)
    subst hm131
    clear cc hb130 hw130 hn131
    go_wp2_with fail
    refine Lex.lexQ_normal (fun _ => ⟨F12_U.out.below hb131 F12_U.out.lt, F12_l.out.below hb131 F12_l.out.lt, F12_t.out.below hb131 F12_t.out.lt⟩) ?_
    refine Lex.lex_do rfl ?_
    go_wp2_with fail
    refine Lex.lexQ_normal (fun _ => ⟨F12_U.out.below hb131 F12_U.out.lt, F12_l.out.below hb131 F12_l.out.lt, F12_t.out.below hb131 F12_t.out.lt⟩) ?_
    refine Lex.lex_do rfl ?_
    go_wp2_with fail
    refine Lex.lexQ_normal (fun _ => ⟨F12_U.out.below hb131 F12_U.out.lt, F12_l.out.below hb131 F12_l.out.lt, F12_t.out.below hb131 F12_t.out.lt⟩) ?_
    refine Lex.lex_take (v := ?_) rfl rfl (by rfl) (fun _ hS => ?_) ?_; rotate_left 1; (focus (have g0_0 := hS.1.cell0; have g0_1 := hS.1.cell1; have g1_0 := hS.2.1.cell0; have g1_1 := hS.2.1.cell1; have g1_2 := hS.2.1.cell2; have g1_3 := hS.2.1.cell3; have g1_4 := hS.2.1.cell4; have g2_0 := hS.2.2.cell0; have g2_1 := hS.2.2.cell1; clear hS; go_simp; with_reducible rfl)); simp only [List.setIfInBounds_toArray, List.set_cons_zero, List.set_cons_succ]
    refine Lex.lex_take (v := ?_) rfl rfl (by rfl) (fun _ hS => ?_) ?_; rotate_left 1; (focus (have g0_0 := hS.1.cell0; have g0_1 := hS.1.cell1; have g1_0 := hS.2.1.cell0; have g1_1 := hS.2.1.cell1; have g1_2 := hS.2.1.cell2; have g1_3 := hS.2.1.cell3; have g1_4 := hS.2.1.cell4; have g2_0 := hS.2.2.cell0; have g2_1 := hS.2.2.cell1; clear hS; go_simp; with_reducible rfl)); simp only [List.setIfInBounds_toArray, List.set_cons_zero, List.set_cons_succ]
    refine Lex.lex_do rfl ?_
    have cc := cru V131 hw131 (R12_x.out.trans (hb131.mono R12_x.out.size))
    go_wp2_with fail
    refine cc.mono ?_
    rintro e V132 ⟨v132, rfl, hm132, hn132⟩
    have hb132 := hb131.trans (hn132.mono hb131.size)
    have hw132 := hw131.trans (hn132.mono hw131.size)
    clear cc hb131 hw131 hn132
    go_wp2_with fail
    refine Lex.lexQ_normal (fun _ => ⟨F12_U.out.below hb132 F12_U.out.lt, F12_l.out.below hb132 F12_l.out.lt, F12_t.out.below hb132 F12_t.out.lt⟩) ?_
    refine Lex.lex_do rfl ?_
    have cc := coq V132 hw132
    go_wp2_with fail
    refine cc.mono ?_
    rintro e V133 ⟨v133, rfl, hm133, hn133⟩
    have hb133 := hb132.trans (hn133.mono hb132.size)
    have hw133 := hw132.trans (hn133.mono hw132.size)
    have hm132 := hm132.below hn133
    clear cc hb132 hw132 hn133
    go_wp2_with fail
    refine Lex.lexQ_normal (fun _ => ⟨F12_U.out.below hb133 F12_U.out.lt, F12_l.out.below hb133 F12_l.out.lt, F12_t.out.below hb133 F12_t.out.lt⟩) ?_
    refine Lex.lex_do rfl ?_
    have cc := ccq V133 hw133 _ _ hm132 hm133
    go_wp2_with fail
    refine cc.mono ?_
    rintro e V134 ⟨v134, rfl, hm134, hn134⟩
    have hb134 := hb133.trans (hn134.mono hb133.size)
    have hw134 := hw133.trans (hn134.mono hw133.size)
    clear hm132 hm133
    subst hm134
    clear cc hb133 hw133 hn134
    go_wp2_with fail
    refine Lex.lexQ_normal (fun _ => ⟨F12_U.out.below hb134 F12_U.out.lt, F12_l.out.below hb134 F12_l.out.lt, F12_t.out.below hb134 F12_t.out.lt⟩) ?_
    refine Lex.lex_do rfl ?_
    go_wp2_with fail
    refine Lex.lexQ_normal (fun _ => ⟨F12_U.out.below hb134 F12_U.out.lt, F12_l.out.below hb134 F12_l.out.lt, F12_t.out.below hb134 F12_t.out.lt⟩) ?_
    refine Lex.lex_do rfl ?_
    go_wp2_with fail
    refine Lex.lexQ_normal (fun _ => ⟨F12_U.out.below hb134 F12_U.out.lt, F12_l.out.below hb134 F12_l.out.lt, F12_t.out.below hb134 F12_t.out.lt⟩) ?_
    refine Lex.lex_do rfl ?_
    go_wp2_with fail
    refine Lex.lexQ_normal (fun _ => ⟨F12_U.out.below hb134 F12_U.out.lt, F12_l.out.below hb134 F12_l.out.lt, F12_t.out.below hb134 F12_t.out.lt⟩) ?_
    refine Lex.lex_do rfl ?_
    have cc := cl V134 hw134
    go_wp2_with fail
    refine cc.mono ?_
    rintro e V135 ⟨v135, rfl, hm135, hn135⟩
    have hb135 := hb134.trans (hn135.mono hb134.size)
    have hw135 := hw134.trans (hn135.mono hw134.size)
    subst hm135
    clear cc hb134 hw134 hn135
    go_wp2_with fail
    refine Lex.lexQ_normal (fun _ => ⟨F12_U.out.below hb135 F12_U.out.lt, F12_l.out.below hb135 F12_l.out.lt, F12_t.out.below hb135 F12_t.out.lt⟩) ?_
    refine Lex.lex_do rfl ?_
    go_wp2_with fail
    refine Lex.lexQ_normal (fun _ => ⟨F12_U.out.below hb135 F12_U.out.lt, F12_l.out.below hb135 F12_l.out.lt, F12_t.out.below hb135 F12_t.out.lt⟩) ?_
    refine Lex.lex_do rfl ?_
    go_wp2_with fail
    refine Lex.lexQ_normal (fun _ => ⟨F12_U.out.below hb135 F12_U.out.lt, F12_l.out.below hb135 F12_l.out.lt, F12_t.out.below hb135 F12_t.out.lt⟩) ?_
    refine Lex.lex_nil ?_
    have F14_u := Lib.hid (F12_u.out.below hb135 F12_u.out.lt)
    have F14_l := Lib.hid (F12_l.out.below hb135 F12_l.out.lt)
    have F14_t := Lib.hid (F12_t.out.below hb135 F12_t.out.lt)
    have F14_U := Lib.hid (F12_U.out.below hb135 F12_U.out.lt)
    have R14_u := Lib.hid (R12_u.out.trans (hb135.mono R12_u.out.size))
    have R14_x := Lib.hid (R12_x.out.trans (hb135.mono R12_x.out.size))
    have B14_ := Lib.hid hw135
    clear hb135 hw135 F12_u F12_l F12_t F12_U B12_ R12_u R12_x
    clear cfu cru coq ccq cl
    go_upto_region 14 with fail
    have k0_0 := F14_u.out.cell0
    have k0_1 := F14_u.out.cell1
    have k1_0 := F14_l.out.cell0
    have k1_1 := F14_l.out.cell1
    have k1_2 := F14_l.out.cell2
    have k1_3 := F14_l.out.cell3
    have k1_4 := F14_l.out.cell4
    have k2_0 := F14_U.out.cell0
    have k2_1 := F14_U.out.cell1
    have hb150 := Below.refl V135.heap.size V135
    have hw150 := B14_.out
    have cc := cg V135 hw150 (R14_u.out.trans (hb150.mono R14_u.out.size))
    go_wp2_with fail
    refine cc.mono ?_
    rintro e V151 ⟨v151, rfl, hm151, hn151⟩
    have hb151 := hb150.trans (hn151.mono hb150.size)
    have hw151 := hw150.trans (hn151.mono hw150.size)
    subst hm151
    clear cc hb150 hw150 hn151
    clear k0_0 k0_1 k1_0 k1_1 k1_2 k1_3 k1_4 k2_0 k2_1
    have k0_0 := (F14_u.out.below hb151 F14_u.out.lt).cell0
    have k0_1 := (F14_u.out.below hb151 F14_u.out.lt).cell1
    have k1_0 := (F14_l.out.below hb151 F14_l.out.lt).cell0
    have k1_1 := (F14_l.out.below hb151 F14_l.out.lt).cell1
    have k1_2 := (F14_l.out.below hb151 F14_l.out.lt).cell2
    have k1_3 := (F14_l.out.below hb151 F14_l.out.lt).cell3
    have k1_4 := (F14_l.out.below hb151 F14_l.out.lt).cell4
    have k2_0 := (F14_U.out.below hb151 F14_U.out.lt).cell0
    have k2_1 := (F14_U.out.below hb151 F14_U.out.lt).cell1
    have cc := cbt V151 hw151 (R14_u.out.trans (hb151.mono R14_u.out.size)) (R14_x.out.trans (hb151.mono R14_x.out.size))
    go_wp2_with fail
    refine cc.mono ?_
    rintro e V152 ⟨v152, rfl, hm152, hn152⟩
    have hb152 := hb151.trans (hn152.mono hb151.size)
    have hw152 := hw151.trans (hn152.mono hw151.size)
    subst hm152
    clear cc hb151 hw151 hn152
    clear k0_0 k0_1 k1_0 k1_1 k1_2 k1_3 k1_4 k2_0 k2_1
    have k0_0 := (F14_u.out.below hb152 F14_u.out.lt).cell0
    have k0_1 := (F14_u.out.below hb152 F14_u.out.lt).cell1
    have k1_0 := (F14_l.out.below hb152 F14_l.out.lt).cell0
    have k1_1 := (F14_l.out.below hb152 F14_l.out.lt).cell1
    have k1_2 := (F14_l.out.below hb152 F14_l.out.lt).cell2
    have k1_3 := (F14_l.out.below hb152 F14_l.out.lt).cell3
    have k1_4 := (F14_l.out.below hb152 F14_l.out.lt).cell4
    have k2_0 := (F14_U.out.below hb152 F14_U.out.lt).cell0
    have k2_1 := (F14_U.out.below hb152 F14_U.out.lt).cell1
    have HE := Lib.hid hw152
    clear hb152 hw152
    go_wp2
    go_ret
    exact ⟨rfl, HE.out⟩

set_option maxRecDepth 100000 in
set_option maxHeartbeats 6400000 in
theorem best_bad (A : Option Addr) (n c : Nat) (B : Option Addr) (m d : Nat) (xs ys : List Int) (wl wh pl ph st a b : Int) (w : World) (hA : Ints .i64 w A xs) (hB : Ints .i64 w B ys) (hxl : xs.length = n) (hyl : ys.length = m) (hnc : n ≤ c) (hmd : m ≤ d) (hA0 : A = none → c = 0) (hB0 : B = none → d = 0) (hc9 : c ≤ 9223372036854775807) (hd9 : d ≤ 9223372036854775807) (hl : LimOk wl wh pl ph st) (hf : ¬ FitsOk (xs.take 8) (ys.take 8) wl (narW wl wh 11) pl (narW pl ph 5) st) (hz : ¬ FOk (a, b)) :
    Calls Tryz.prog 3 #[.agg #[.slice A n c, .slice B m d], .agg #[.int .i64 wl, .int .i64 wh, .int .i64 pl, .int .i64 ph, .int .i64 st], .agg #[.int .i64 a, .int .i64 b]] w (RetV (.bool true) w) := by
  have hk8 : (xs.take 8).length ≤ 8 := by simp; omega
  have hl8 : (ys.take 8).length ≤ 8 := by simp; omega
  have cfw0 : ∀ W (_ : Below w.heap.size w W), Calls Tryz.prog 12 #[.agg #[.slice A n c, .slice B m d]] W (RetFewT xs ys W) := fun W hb => few_typ A n c B m d xs ys W (hA.below hb) (hB.below hb) hxl hyl hnc hmd hA0 hB0 hc9 hd9
  clear hA hB hxl hyl hnc hmd hA0 hB0 hc9 hd9
  unfold RetFewT at cfw0
  obtain ⟨us, hus⟩ : ∃ us, us = xs.take 8 := ⟨_, rfl⟩
  obtain ⟨vs, hvs⟩ : ∃ vs, vs = ys.take 8 := ⟨_, rfl⟩
  rw [← hus] at hk8 cfw0 hf
  rw [← hvs] at hl8 cfw0 hf
  clear hus hvs
  obtain ⟨k, hk⟩ : ∃ k, us.length = k := ⟨_, rfl⟩
  obtain ⟨l, hll⟩ : ∃ l, vs.length = l := ⟨_, rfl⟩
  have cfw : ∀ W (_ : Below w.heap.size w W), Calls Tryz.prog 12 #[.agg #[.slice A n c, .slice B m d]] W (fun e w' => ∃ A' c' B' d', e = .returned (.agg #[.slice (some A') k c', .slice (some B') l d']) ∧ IntsT w' (some A') us ∧ IntsT w' (some B') vs ∧ Below W.heap.size W w') := fun W hb => (cfw0 W hb).mono fun e w' ⟨A', c', B', d', h1, _, _, _, _, h2, h3, h4⟩ => ⟨A', c', B', d', by rw [h1, hk, hll], h2, h3, h4⟩
  clear cfw0
  have cl := lives_y (w := w)
  obtain ⟨w2, hw2⟩ : ∃ w2, narW wl wh 11 = w2 := ⟨_, rfl⟩
  obtain ⟨p2, hp2⟩ : ∃ p2, narW pl ph 5 = p2 := ⟨_, rfl⟩
  have hl2 := narW_lim hl (most := 11) (half := 5) (by omega) (by omega)
  rw [hw2, hp2] at hl2 hf
  have cn : ∀ W (_ : Below w.heap.size w W), Calls Tryz.prog 11 #[.agg #[.int .i64 wl, .int .i64 wh, .int .i64 pl, .int .i64 ph, .int .i64 st], .int .i64 11] W (RetW (.agg #[.int .i64 wl, .int .i64 w2, .int .i64 pl, .int .i64 p2, .int .i64 st]) W) := fun W _ => (narrow_ok wl wh pl ph st 11 5 w2 p2 W hl (by omega) (by omega) rfl hw2 hp2).mono fun e w' h => RetW.of h
  have clim : ∀ W (_ : Below w.heap.size w W), Calls Tryz.prog 13 #[.agg #[.int .i64 wl, .int .i64 w2, .int .i64 pl, .int .i64 p2, .int .i64 st]] W (RetW (.bool true) W) := fun W _ => by
    have := rlimits_any wl w2 pl p2 st W
    rw [decide_eq_true hl2] at this
    exact this.mono fun e w' h => RetW.of h
  clear hw2 hp2
  have cv := valid_y a b false (decide_eq_false hz) (w := w)
  obtain ⟨W3, hW3⟩ : ∃ W3, W3 = ((w.alloc (.cells #[.slice A n c, .slice B m d] 24)).alloc (.cells #[.int .i64 wl, .int .i64 wh, .int .i64 pl, .int .i64 ph, .int .i64 st] 26)).alloc (.cells #[.int .i64 a, .int .i64 b] 28) := ⟨_, rfl⟩
  have s1 : (w.alloc (.cells #[.slice A n c, .slice B m d] 24)).heap.size = w.heap.size + 1 := by simp
  have s2 : ((w.alloc (.cells #[.slice A n c, .slice B m d] 24)).alloc (.cells #[.int .i64 wl, .int .i64 wh, .int .i64 pl, .int .i64 ph, .int .i64 st] 26)).heap.size = w.heap.size + 1 + 1 := by simp
  have hB3 : Below w.heap.size w W3 := by rw [hW3]; exact (((Below.refl _ _).alloc (Nat.le_refl _) _).alloc (by simp) _).alloc (by simp; omega) _
  have HBW := Lib.hid hB3
  have HF := Lib.hid (show Two W3 w.heap.size (.slice A n c) (.slice B m d) 24 by rw [hW3]; exact ((Two.newAt _ _ _ _ _ rfl).alloc _).alloc _)
  have HL := Lib.hid (show Five W3 (w.heap.size + 1) (.int .i64 wl) (.int .i64 wh) (.int .i64 pl) (.int .i64 ph) (.int .i64 st) 26 by
    rw [hW3]
    exact (Five.newAt _ _ _ _ _ _ _ (w.heap.size + 1) s1.symm).below ((Below.refl (w.heap.size + 1 + 1) _).alloc (by rw [s2]; exact Nat.le_refl _) _) (by omega))
  have HZ := Lib.hid (show Two W3 (w.heap.size + 1 + 1) (.int .i64 a) (.int .i64 b) 28 by rw [hW3]; exact Two.newAt _ _ _ _ _ s2.symm)
  clear hB3 s1 s2
  have HK8 := Lib.hid hk8
  have HL8 := Lib.hid hl8
  have HFI := Lib.hid hf
  have HLL := Lib.hid (And.intro hk hll)
  clear hk8 hl8 hf
  clear hk hll hz hl hl2
  go_enter Tryz.func3, Tryz.ntmps3
  go_upto_region 1 with fail
  rw [← hW3]
  clear hW3
  refine Lex.wp_region_mix (fun w' => Two w' w.heap.size (.slice A n c) (.slice B m d) 24 ∧ Five w' (w.heap.size + 1) (.int .i64 wl) (.int .i64 wh) (.int .i64 pl) (.int .i64 ph) (.int .i64 st) 26 ∧ Two w' (w.heap.size + 1 + 1) (.int .i64 a) (.int .i64 b) 28)
    [(0, 12), (1, 13), (2, 14), (3, 15), (4, 7), (5, 8)] (fun j => j == 0 || j == 2) (fun j => j == 4 || j == 5) [(6, false), (7, false)]
    (fun i v w' => match i with | 0 => v = .agg #[.int .i64 wl, .int .i64 wh, .int .i64 pl, .int .i64 ph, .int .i64 st] | 1 => v = .agg #[.int .i64 wl, .int .i64 w2, .int .i64 pl, .int .i64 p2, .int .i64 st] | 2 => v = .agg #[.slice A n c, .slice B m d] | 3 => ∃ A' c' B' d', v = (.agg #[.slice (some A') k c', .slice (some B') l d']) ∧ IntsT w' (some A') us ∧ IntsT w' (some B') vs | 4 => ∃ B, v = .pointer (some ⟨B, 0, none⟩) ∧ W3.heap.size ≤ B ∧ Five w' B (.int .i64 0) (.int .i64 0) (.int .i64 0) (.int .i64 0) (.int .i64 0) 26 | 5 => ∃ B, v = .pointer (some ⟨B, 0, none⟩) ∧ W3.heap.size ≤ B ∧ Two w' B (.slice none 0 0) (.slice none 0 0) 24 | _ => False)
    (by kernel_rfl) (by kernel_rfl) (by kernel_rfl) ⟨HF.out, HL.out, HZ.out⟩ (fun w1 w2 hS hb => ⟨hS.1.below hb hS.1.lt, hS.2.1.below hb hS.2.1.lt, hS.2.2.below hb hS.2.2.lt⟩) ?_ ?_ ?_
  · refine Lex.all_cons ?_ (Lex.all_cons ?_ (Lex.all_cons ?_ (Lex.all_cons ?_ (Lex.all_cons ?_ (Lex.all_cons ?_ (Lex.all_nil))))))
    · exact fun v w1 w2 h _ => h
    · exact fun v w1 w2 h _ => h
    · exact fun v w1 w2 h _ => h
    · exact fun v w1 w2 ⟨A', c', B', d', hv, h1, h2⟩ hb => ⟨A', c', B', d', hv, h1.below hb, h2.below hb⟩
    · exact fun v w1 w2 ⟨B, hv, hl, hT⟩ hb => ⟨B, hv, hl, hT.below hb hT.lt⟩
    · exact fun v w1 w2 ⟨B, hv, hl, hT⟩ hb => ⟨B, hv, hl, hT.below hb hT.lt⟩
  · refine Lex.all_cons ?_ (Lex.all_cons ?_ (Lex.all_cons ?_ (Lex.all_cons ?_ (Lex.all_cons ?_ (Lex.all_cons ?_ (Lex.all_nil))))))
    · refine Lex.ob_eager rfl rfl (fun σ w1 hS hB hg => ⟨.agg #[.int .i64 wl, .int .i64 wh, .int .i64 pl, .int .i64 ph, .int .i64 st], rfl, fun w2 hS => ?_, rfl⟩)
      clear hg
      simp only [Lex.full, Act.put, List.setIfInBounds_toArray, List.set_cons_zero, List.set_cons_succ]
      have f1_0 := hS.2.1.cell0
      have f1_1 := hS.2.1.cell1
      have f1_2 := hS.2.1.cell2
      have f1_3 := hS.2.1.cell3
      have f1_4 := hS.2.1.cell4
      clear hS
      go_simp
      all_goals with_reducible rfl
    · refine Lex.ob_step rfl rfl rfl (fun σ w1 hS hB hg K hK => ?_)
      have HK := Lib.hid hK
      clear hK
      have g0 : (σ 0) = .agg #[.int .i64 wl, .int .i64 wh, .int .i64 pl, .int .i64 ph, .int .i64 st] := hg (0, 12) (by simp) (by kernel_rfl)
      clear hg
      simp only [Lex.full, Act.put, List.setIfInBounds_toArray, List.set_cons_zero, List.set_cons_succ]
      simp only [g0]
      have hw1 : Below w.heap.size w w1 := HBW.out.drew.trans (hB.mono HBW.out.size)
      have cc := cn w1 hw1
      go_wp2_with fail
      refine cc.mono ?_
      rintro e w2 ⟨v1, rfl, rfl, hn⟩
      clear cc
      go_wp2_with fail
      exact HK.out _ _ ⟨rfl, hn, rfl, fun h => nomatch h⟩
    · refine Lex.ob_eager rfl rfl (fun σ w1 hS hB hg => ⟨.agg #[.slice A n c, .slice B m d], rfl, fun w2 hS => ?_, rfl⟩)
      clear hg
      simp only [Lex.full, Act.put, List.setIfInBounds_toArray, List.set_cons_zero, List.set_cons_succ]
      have f0_0 := hS.1.cell0
      have f0_1 := hS.1.cell1
      clear hS
      go_simp
      all_goals with_reducible rfl
    · refine Lex.ob_step rfl rfl rfl (fun σ w1 hS hB hg K hK => ?_)
      have HK := Lib.hid hK
      clear hK
      have g2 : (σ 2) = .agg #[.slice A n c, .slice B m d] := hg (2, 14) (by simp) (by kernel_rfl)
      clear hg
      simp only [Lex.full, Act.put, List.setIfInBounds_toArray, List.set_cons_zero, List.set_cons_succ]
      simp only [g2]
      have hw1 : Below w.heap.size w w1 := HBW.out.drew.trans (hB.mono HBW.out.size)
      have cc := cfw w1 hw1
      go_wp2_with fail
      refine cc.mono ?_
      rintro e w2 ⟨A', c', B', d', rfl, hI1, hI2, hn⟩
      clear cc
      go_wp2_with fail
      exact HK.out _ _ ⟨rfl, hn, ⟨A', c', B', d', rfl, hI1, hI2⟩, fun h => nomatch h⟩
    · refine Lex.ob_step rfl rfl rfl (fun σ w1 hS hB hg K hK => ?_)
      have HK := Lib.hid hK
      clear hK
      clear hg
      simp only [Lex.full, Act.put, List.setIfInBounds_toArray, List.set_cons_zero, List.set_cons_succ]
      go_wp2_with fail
      refine HK.out _ _ ⟨rfl, (Below.refl _ _).alloc (Nat.le_refl _) _, ⟨w1.heap.size, rfl, show W3.heap.size ≤ _ from hB.size, Five.newAt _ _ _ _ _ _ _ _ rfl⟩, fun _ => ?_⟩
      refine Lex.all_cons ?_ (Lex.all_cons ?_ (Lex.all_cons ?_ (Lex.all_cons ?_ (Lex.all_cons ?_ (Lex.all_cons ?_ (Lex.all_nil))))))
      · intro u h; cases h
      · intro u h; cases h
      · intro u h; cases h
      · intro u h; cases h
      · rintro u _ ⟨B, rfl, _, hT⟩ he; have := hT.lt; have he : Value.pointer (some ⟨B, 0, none⟩) = .pointer (some ⟨w1.heap.size, 0, none⟩) := he; injection he with he; injection he with he; injection he with he; omega
      · rintro u _ ⟨B, rfl, _, hT⟩ he; have := hT.lt; have he : Value.pointer (some ⟨B, 0, none⟩) = .pointer (some ⟨w1.heap.size, 0, none⟩) := he; injection he with he; injection he with he; injection he with he; omega
    · refine Lex.ob_step rfl rfl rfl (fun σ w1 hS hB hg K hK => ?_)
      have HK := Lib.hid hK
      clear hK
      clear hg
      simp only [Lex.full, Act.put, List.setIfInBounds_toArray, List.set_cons_zero, List.set_cons_succ]
      go_wp2_with fail
      refine HK.out _ _ ⟨rfl, (Below.refl _ _).alloc (Nat.le_refl _) _, ⟨w1.heap.size, rfl, show W3.heap.size ≤ _ from hB.size, Two.newAt _ _ _ _ _ rfl⟩, fun _ => ?_⟩
      refine Lex.all_cons ?_ (Lex.all_cons ?_ (Lex.all_cons ?_ (Lex.all_cons ?_ (Lex.all_cons ?_ (Lex.all_cons ?_ (Lex.all_nil))))))
      · intro u h; cases h
      · intro u h; cases h
      · intro u h; cases h
      · intro u h; cases h
      · rintro u _ ⟨B, rfl, _, hT⟩ he; have := hT.lt; have he : Value.pointer (some ⟨B, 0, none⟩) = .pointer (some ⟨w1.heap.size, 0, none⟩) := he; injection he with he; injection he with he; injection he with he; omega
      · rintro u _ ⟨B, rfl, _, hT⟩ he; have := hT.lt; have he : Value.pointer (some ⟨B, 0, none⟩) = .pointer (some ⟨w1.heap.size, 0, none⟩) := he; injection he with he; injection he with he; injection he with he; omega
  · intro σ V1_ hS hB hg hd
    have e0 : (σ 0) = .agg #[.int .i64 wl, .int .i64 wh, .int .i64 pl, .int .i64 ph, .int .i64 st] := hg (0, 12) (by simp)
    have e1 : (σ 1) = .agg #[.int .i64 wl, .int .i64 w2, .int .i64 pl, .int .i64 p2, .int .i64 st] := hg (1, 13) (by simp)
    have e2 : (σ 2) = .agg #[.slice A n c, .slice B m d] := hg (2, 14) (by simp)
    have e3 : ∃ A' c' B' d', (σ 3) = (.agg #[.slice (some A') k c', .slice (some B') l d']) ∧ IntsT V1_ (some A') us ∧ IntsT V1_ (some B') vs := hg (3, 15) (by simp)
    have e4 : ∃ B, (σ 4) = .pointer (some ⟨B, 0, none⟩) ∧ W3.heap.size ≤ B ∧ Five V1_ B (.int .i64 0) (.int .i64 0) (.int .i64 0) (.int .i64 0) (.int .i64 0) 26 := hg (4, 7) (by simp)
    have e5 : ∃ B, (σ 5) = .pointer (some ⟨B, 0, none⟩) ∧ W3.heap.size ≤ B ∧ Two V1_ B (.slice none 0 0) (.slice none 0 0) 24 := hg (5, 8) (by simp)
    have n1_4_5 : σ 4 ≠ σ 5 := hd (4, 7) (by simp) (5, 8) (by simp) (by decide) rfl rfl
    clear hg hd
    simp only [Lex.full, Act.put, List.setIfInBounds_toArray, List.set_cons_zero, List.set_cons_succ]
    generalize σ 0 = s1_0 at *
    generalize σ 1 = s1_1 at *
    generalize σ 2 = s1_2 at *
    generalize σ 3 = s1_3 at *
    generalize σ 4 = s1_4 at *
    generalize σ 5 = s1_5 at *
    clear σ
    subst e0
    subst e1
    subst e2
    obtain ⟨A', c', B', d', rfl, hI1, hI2⟩ := e3
    obtain ⟨B1_4, rfl, l1_4, T4⟩ := e4
    have HT1_4 := Lib.hid T4
    clear T4
    obtain ⟨B1_5, rfl, l1_5, T5⟩ := e5
    have HT1_5 := Lib.hid T5
    clear T5
    replace n1_4_5 : B1_4 ≠ B1_5 := fun e => n1_4_5 (by rw [e])
    have HBm := Lib.hid (show Below w.heap.size w V1_ from HBW.out.drew.trans (hB.mono HBW.out.size))
    have HBb := Lib.hid (show Below W3.heap.size W3 V1_ from ⟨hB.os, hB.tape, hB.output, hB.size, hB.block⟩)
    have HSm := Lib.hid hS
    clear hB hS
    have l1_x := HF.out.lt
    have G1_x := Lib.hid HSm.out.1
    have l1_y := HL.out.lt
    have G1_y := Lib.hid HSm.out.2.1
    have l1_z := HZ.out.lt
    have G1_z := Lib.hid HSm.out.2.2
    have lw1 := HBW.out.size
    clear HSm HBb HF HL HZ HBW
    have Y1_i1 := Lib.hid hI1
    clear hI1
    have Y1_i2 := Lib.hid hI2
    clear hI2
    refine Lex.lex_do rfl ?_
    have r0 := HT1_4.out.cell0
    have g0 := HT1_4.out.free 0
    have r1 := HT1_4.out.cell1
    have g1 := HT1_4.out.free 1
    have r2 := HT1_4.out.cell2
    have g2 := HT1_4.out.free 2
    have r3 := HT1_4.out.cell3
    have g3 := HT1_4.out.free 3
    have r4 := HT1_4.out.cell4
    have g4 := HT1_4.out.free 4
    obtain ⟨V1_s1, hV1⟩ : ∃ V1_s1, V1_s1 = (((((V1_.setCell ⟨B1_4, 0, none⟩ (.int .i64 wl)).setCell ⟨B1_4, 1, none⟩ (.int .i64 w2)).setCell ⟨B1_4, 2, none⟩ (.int .i64 pl)).setCell ⟨B1_4, 3, none⟩ (.int .i64 p2)).setCell ⟨B1_4, 4, none⟩ (.int .i64 st)) := ⟨_, rfl⟩
    have HV1 := Lib.hid hV1
    clear hV1
    go_wp2_with fail
    rw [← HV1.out]
    clear r0 g0 r1 g1 r2 g2 r3 g3 r4 g4
    have G1_xs := Lib.hid (show Two V1_s1 w.heap.size (.slice A n c) (.slice B m d) 24 by rw [HV1.out]; exact (((((G1_x.out.setOther ⟨B1_4, 0, none⟩ _ (by dsimp only; omega)).setOther ⟨B1_4, 1, none⟩ _ (by dsimp only; omega)).setOther ⟨B1_4, 2, none⟩ _ (by dsimp only; omega)).setOther ⟨B1_4, 3, none⟩ _ (by dsimp only; omega)).setOther ⟨B1_4, 4, none⟩ _ (by dsimp only; omega)))
    have G1_ys := Lib.hid (show Five V1_s1 (w.heap.size + 1) (.int .i64 wl) (.int .i64 wh) (.int .i64 pl) (.int .i64 ph) (.int .i64 st) 26 by rw [HV1.out]; exact (((((G1_y.out.setOther ⟨B1_4, 0, none⟩ _ (by dsimp only; omega)).setOther ⟨B1_4, 1, none⟩ _ (by dsimp only; omega)).setOther ⟨B1_4, 2, none⟩ _ (by dsimp only; omega)).setOther ⟨B1_4, 3, none⟩ _ (by dsimp only; omega)).setOther ⟨B1_4, 4, none⟩ _ (by dsimp only; omega)))
    have G1_zs := Lib.hid (show Two V1_s1 (w.heap.size + 1 + 1) (.int .i64 a) (.int .i64 b) 28 by rw [HV1.out]; exact (((((G1_z.out.setOther ⟨B1_4, 0, none⟩ _ (by dsimp only; omega)).setOther ⟨B1_4, 1, none⟩ _ (by dsimp only; omega)).setOther ⟨B1_4, 2, none⟩ _ (by dsimp only; omega)).setOther ⟨B1_4, 3, none⟩ _ (by dsimp only; omega)).setOther ⟨B1_4, 4, none⟩ _ (by dsimp only; omega)))
    replace HT1_5 := Lib.hid (show Two V1_s1 _ _ _ _ by rw [HV1.out]; exact (((((HT1_5.out.setOther ⟨B1_4, 0, none⟩ _ (by dsimp only; omega)).setOther ⟨B1_4, 1, none⟩ _ (by dsimp only; omega)).setOther ⟨B1_4, 2, none⟩ _ (by dsimp only; omega)).setOther ⟨B1_4, 3, none⟩ _ (by dsimp only; omega)).setOther ⟨B1_4, 4, none⟩ _ (by dsimp only; omega)))
    have G1_l := Lib.hid (show Five V1_s1 B1_4 (.int .i64 wl) (.int .i64 w2) (.int .i64 pl) (.int .i64 p2) (.int .i64 st) 26 by rw [HV1.out]; exact (((((HT1_4.out).set0 _).set1 _).set2 _).set3 _).set4 _)
    have Y1_i1s := Lib.hid (show IntsT V1_s1 (some A') us by rw [HV1.out]; exact IntsT.set5 Y1_i1.out HT1_4.out (by decide) _ _ _ _ _)
    clear Y1_i1
    have Y1_i2s := Lib.hid (show IntsT V1_s1 (some B') vs by rw [HV1.out]; exact IntsT.set5 Y1_i2.out HT1_4.out (by decide) _ _ _ _ _)
    clear Y1_i2
    have HB1_1 := Lib.hid (show Below w.heap.size w V1_s1 by rw [HV1.out]; exact (((((HBm.out.setCell (by dsimp only; omega) _).setCell (by dsimp only; omega) _).setCell (by dsimp only; omega) _).setCell (by dsimp only; omega) _).setCell (by dsimp only; omega) _))
    clear HV1 HT1_4 HBm G1_x G1_y G1_z
    refine Lex.lexQ_normal (fun _ => ⟨G1_xs.out, G1_ys.out, G1_zs.out⟩) ?_
    refine Lex.lex_do rfl ?_
    have r0 := HT1_5.out.cell0
    have g0 := HT1_5.out.free 0
    have r1 := HT1_5.out.cell1
    have g1 := HT1_5.out.free 1
    obtain ⟨V1_s2, hV1⟩ : ∃ V1_s2, V1_s2 = ((V1_s1.setCell ⟨B1_5, 0, none⟩ ((.slice (some A') k c'))).setCell ⟨B1_5, 1, none⟩ ((.slice (some B') l d'))) := ⟨_, rfl⟩
    have HV1 := Lib.hid hV1
    clear hV1
    go_wp2_with fail
    rw [← HV1.out]
    clear r0 g0 r1 g1
    have G1_xss := Lib.hid (show Two V1_s2 w.heap.size (.slice A n c) (.slice B m d) 24 by rw [HV1.out]; exact ((G1_xs.out.setOther ⟨B1_5, 0, none⟩ _ (by dsimp only; omega)).setOther ⟨B1_5, 1, none⟩ _ (by dsimp only; omega)))
    have G1_yss := Lib.hid (show Five V1_s2 (w.heap.size + 1) (.int .i64 wl) (.int .i64 wh) (.int .i64 pl) (.int .i64 ph) (.int .i64 st) 26 by rw [HV1.out]; exact ((G1_ys.out.setOther ⟨B1_5, 0, none⟩ _ (by dsimp only; omega)).setOther ⟨B1_5, 1, none⟩ _ (by dsimp only; omega)))
    have G1_zss := Lib.hid (show Two V1_s2 (w.heap.size + 1 + 1) (.int .i64 a) (.int .i64 b) 28 by rw [HV1.out]; exact ((G1_zs.out.setOther ⟨B1_5, 0, none⟩ _ (by dsimp only; omega)).setOther ⟨B1_5, 1, none⟩ _ (by dsimp only; omega)))
    have G1_ls := Lib.hid (show Five V1_s2 B1_4 (.int .i64 wl) (.int .i64 w2) (.int .i64 pl) (.int .i64 p2) (.int .i64 st) 26 by rw [HV1.out]; exact ((G1_l.out.setOther ⟨B1_5, 0, none⟩ _ (by dsimp only; omega)).setOther ⟨B1_5, 1, none⟩ _ (by dsimp only; omega)))
    have G1_u := Lib.hid (show Two V1_s2 B1_5 (.slice (some A') k c') (.slice (some B') l d') 24 by rw [HV1.out]; exact (HT1_5.out.set0 _).set1 _)
    have Y1_i1ss := Lib.hid (show IntsT V1_s2 (some A') us by rw [HV1.out]; exact IntsT.set01 Y1_i1s.out HT1_5.out (by decide) _ _)
    clear Y1_i1s
    have Y1_i2ss := Lib.hid (show IntsT V1_s2 (some B') vs by rw [HV1.out]; exact IntsT.set01 Y1_i2s.out HT1_5.out (by decide) _ _)
    clear Y1_i2s
    have HB1_2 := Lib.hid (show Below w.heap.size w V1_s2 by rw [HV1.out]; exact ((HB1_1.out.setCell (by dsimp only; omega) _).setCell (by dsimp only; omega) _))
    clear HV1 HT1_5 HB1_1 G1_xs G1_ys G1_zs G1_l
    refine Lex.lexQ_normal (fun _ => ⟨G1_xss.out, G1_yss.out, G1_zss.out⟩) ?_
    refine Lex.lex_nil ?_
    clear G1_xss G1_yss
    clear cn cfw
    have cg : ∀ W (_ : Below w.heap.size w W) (_ : Below V1_s2.heap.size V1_s2 W), Calls Tryz.prog 15 #[(.agg #[.slice (some A') k c', .slice (some B') l d']), .agg #[.int .i64 wl, .int .i64 w2, .int .i64 pl, .int .i64 p2, .int .i64 st]] W (RetW (.bool false) W) := fun W _ hb => (rfits_any (some A') k c' (some B') l d' us vs wl w2 pl p2 st (false, ()) W (Y1_i1ss.out.1.below hb) (Y1_i2ss.out.1.below hb) HLL.out.1 HLL.out.2 (by rw [← HLL.out.1]; exact HK8.out) (by rw [← HLL.out.2]; exact HL8.out) (decide_eq_false HFI.out)).mono fun e w' h => RetW.of h
    have HRU := Lib.hid (Below.refl V1_s2.heap.size V1_s2)
    clear Y1_i1ss Y1_i2ss
    clear HK8 HL8 HFI HLL
    have k0_0 := G1_ls.out.cell0
    have k0_1 := G1_ls.out.cell1
    have k0_2 := G1_ls.out.cell2
    have k0_3 := G1_ls.out.cell3
    have k0_4 := G1_ls.out.cell4
    have hb20 := Below.refl V1_s2.heap.size V1_s2
    have hw20 := HB1_2.out
    have cc := clim V1_s2 hw20
    go_wp2_with fail
    refine cc.mono ?_
    rintro e V21 ⟨v21, rfl, hm21, hn21⟩
    have hb21 := hb20.trans (hn21.mono hb20.size)
    have hw21 := hw20.trans (hn21.mono hw20.size)
    subst hm21
    clear cc hb20 hw20 hn21
    clear k0_0 k0_1 k0_2 k0_3 k0_4
    have k0_0 := (G1_ls.out.below hb21 G1_ls.out.lt).cell0
    have k0_1 := (G1_ls.out.below hb21 G1_ls.out.lt).cell1
    have k0_2 := (G1_ls.out.below hb21 G1_ls.out.lt).cell2
    have k0_3 := (G1_ls.out.below hb21 G1_ls.out.lt).cell3
    have k0_4 := (G1_ls.out.below hb21 G1_ls.out.lt).cell4
    clear k0_0 k0_1 k0_2 k0_3 k0_4
    have F3_z := Lib.hid (G1_zss.out.below hb21 G1_zss.out.lt)
    have F3_l := Lib.hid (G1_ls.out.below hb21 G1_ls.out.lt)
    have F3_u := Lib.hid (G1_u.out.below hb21 G1_u.out.lt)
    have R3_u := Lib.hid (HRU.out.trans (hb21.mono HRU.out.size))
    have B3_ := Lib.hid hw21
    clear hb21 hw21 G1_zss G1_ls G1_u HB1_2 HRU
    have HSZ := Lib.hid R3_u.out.size
    clear clim
    have q0_0 := F3_z.out.cell0
    have q0_1 := F3_z.out.cell1
    have hb0_ := Below.refl V21.heap.size V21
    have hw0_ := B3_.out
    obtain ⟨NB_, hNB⟩ : ∃ NB_, NB_ = V21.heap.size := ⟨_, rfl⟩
    obtain ⟨U4, hU⟩ : ∃ U4, U4 = V21.alloc (.cells #[.int .i64 a, .int .i64 b] 28) := ⟨_, rfl⟩
    have HU := Lib.hid (show U4 = _ ∧ NB_ = _ from ⟨hU, hNB⟩)
    clear hU hNB
    go_upto_region 5 with fail
    clear q0_0 q0_1
    rw [← HU.out.2, ← HU.out.1]
    have hbU := hb0_.alloc hb0_.size (.cells #[.int .i64 a, .int .i64 b] 28)
    have hwU := hw0_.alloc hw0_.size (.cells #[.int .i64 a, .int .i64 b] 28)
    rw [← HU.out.1] at hbU hwU
    have F4_z := Lib.hid (F3_z.out.below hbU F3_z.out.lt)
    have F4_l := Lib.hid (F3_l.out.below hbU F3_l.out.lt)
    have F4_u := Lib.hid (F3_u.out.below hbU F3_u.out.lt)
    have O4_z := Lib.hid (show (w.heap.size + 1 + 1) < NB_ by rw [HU.out.2]; exact (F3_z.out.below hb0_ F3_z.out.lt).lt)
    have O4_l := Lib.hid (show B1_4 < NB_ by rw [HU.out.2]; exact (F3_l.out.below hb0_ F3_l.out.lt).lt)
    have O4_u := Lib.hid (show B1_5 < NB_ by rw [HU.out.2]; exact (F3_u.out.below hb0_ F3_u.out.lt).lt)
    have OW4 := Lib.hid (show w.heap.size ≤ NB_ by rw [HU.out.2]; exact hw0_.size)
    have F4_t := Lib.hid (show Two U4 NB_ (.int .i64 a) (.int .i64 b) 28 by rw [HU.out.1, HU.out.2]; exact Two.newAt _ _ _ _ _ rfl)
    have R4_u := Lib.hid (R3_u.out.trans (hbU.mono R3_u.out.size))
    have OV4 := Lib.hid (show Below V21.heap.size V21 U4 by rw [HU.out.1]; exact (Below.refl _ _).alloc (Nat.le_refl _) _)
    have OE4 := Lib.hid (show V21.heap.size ≤ NB_ by rw [HU.out.2]; exact Nat.le_refl _)
    have B4_ := Lib.hid hwU
    clear HU hbU hwU hb0_ hw0_ F3_z F3_l F3_u B3_ R3_u
    have HUV := Lib.hid (show V1_s2.heap.size ≤ NB_ from Nat.le_trans HSZ.out OE4.out)
    clear HSZ OV4 OE4
    clear F4_z
    have k0_0 := F4_u.out.cell0
    have k0_1 := F4_u.out.cell1
    have k1_0 := F4_l.out.cell0
    have k1_1 := F4_l.out.cell1
    have k1_2 := F4_l.out.cell2
    have k1_3 := F4_l.out.cell3
    have k1_4 := F4_l.out.cell4
    have hb50 := Below.refl U4.heap.size U4
    have hw50 := B4_.out
    have cc := cg U4 hw50 (R4_u.out.trans (hb50.mono R4_u.out.size))
    go_wp2_with fail
    refine cc.mono ?_
    rintro e V51 ⟨v51, rfl, hm51, hn51⟩
    have hb51 := hb50.trans (hn51.mono hb50.size)
    have hw51 := hw50.trans (hn51.mono hw50.size)
    subst hm51
    clear cc hb50 hw50 hn51
    clear k0_0 k0_1 k1_0 k1_1 k1_2 k1_3 k1_4
    have k0_0 := (F4_u.out.below hb51 F4_u.out.lt).cell0
    have k0_1 := (F4_u.out.below hb51 F4_u.out.lt).cell1
    have k1_0 := (F4_l.out.below hb51 F4_l.out.lt).cell0
    have k1_1 := (F4_l.out.below hb51 F4_l.out.lt).cell1
    have k1_2 := (F4_l.out.below hb51 F4_l.out.lt).cell2
    have k1_3 := (F4_l.out.below hb51 F4_l.out.lt).cell3
    have k1_4 := (F4_l.out.below hb51 F4_l.out.lt).cell4
    go_upto_region 7 with fail
    clear k0_0 k0_1 k1_0 k1_1 k1_2 k1_3 k1_4
    have F6_l := Lib.hid (F4_l.out.below hb51 F4_l.out.lt)
    have F6_u := Lib.hid (F4_u.out.below hb51 F4_u.out.lt)
    have F6_t := Lib.hid (F4_t.out.below hb51 F4_t.out.lt)
    have R6_u := Lib.hid (R4_u.out.trans (hb51.mono R4_u.out.size))
    have B6_ := Lib.hid hw51
    clear hb51 hw51 F4_l F4_u F4_t B4_ R4_u
    have k0_0 := F6_t.out.cell0
    have k0_1 := F6_t.out.cell1
    have hb70 := Below.refl V51.heap.size V51
    have hw70 := B6_.out
    have cc := cv V51 hw70
    go_wp2_with fail
    refine cc.mono ?_
    rintro e V71 ⟨v71, rfl, hm71, hn71⟩
    have hb71 := hb70.trans (hn71.mono hb70.size)
    have hw71 := hw70.trans (hn71.mono hw70.size)
    subst hm71
    clear cc hb70 hw70 hn71
    clear k0_0 k0_1
    have k0_0 := (F6_t.out.below hb71 F6_t.out.lt).cell0
    have k0_1 := (F6_t.out.below hb71 F6_t.out.lt).cell1
    clear cv
    go_upto_region 8 with fail
    clear k0_0 k0_1
    have F8_l := Lib.hid (F6_l.out.below hb71 F6_l.out.lt)
    have F8_u := Lib.hid (F6_u.out.below hb71 F6_u.out.lt)
    have F8_t := Lib.hid (F6_t.out.below hb71 F6_t.out.lt)
    have R8_u := Lib.hid (R6_u.out.trans (hb71.mono R6_u.out.size))
    have B8_ := Lib.hid hw71
    clear hb71 hw71 F6_l F6_u F6_t B6_ R6_u
    have hb90 := Below.refl V71.heap.size V71
    have hw90 := B8_.out
    have cc := cl V71 hw90
    go_wp2_with fail
    refine cc.mono ?_
    rintro e V91 ⟨v91, rfl, hm91, hn91⟩
    have hb91 := hb90.trans (hn91.mono hb90.size)
    have hw91 := hw90.trans (hn91.mono hw90.size)
    subst hm91
    clear cc hb90 hw90 hn91
    have HE := Lib.hid hw91
    clear hb91 hw91
    go_wp2
    go_ret
    exact ⟨rfl, HE.out⟩

set_option maxRecDepth 100000 in
set_option maxHeartbeats 6400000 in
theorem best_neg (A : Option Addr) (n c : Nat) (B : Option Addr) (m d : Nat) (xs ys : List Int) (wl wh pl ph st a b : Int) (w : World) (hA : Ints .i64 w A xs) (hB : Ints .i64 w B ys) (hxl : xs.length = n) (hyl : ys.length = m) (hnc : n ≤ c) (hmd : m ≤ d) (hA0 : A = none → c = 0) (hB0 : B = none → d = 0) (hc9 : c ≤ 9223372036854775807) (hd9 : d ≤ 9223372036854775807) (hl : LimOk wl wh pl ph st) (hf : ¬ FitsOk (xs.take 8) (ys.take 8) wl (narW wl wh 11) pl (narW pl ph 5) st) (hz : FOk (a, b)) (hpos : a ≤ 0) :
    Calls Tryz.prog 3 #[.agg #[.slice A n c, .slice B m d], .agg #[.int .i64 wl, .int .i64 wh, .int .i64 pl, .int .i64 ph, .int .i64 st], .agg #[.int .i64 a, .int .i64 b]] w (RetV (.bool true) w) := by
  have hk8 : (xs.take 8).length ≤ 8 := by simp; omega
  have hl8 : (ys.take 8).length ≤ 8 := by simp; omega
  have cfw0 : ∀ W (_ : Below w.heap.size w W), Calls Tryz.prog 12 #[.agg #[.slice A n c, .slice B m d]] W (RetFewT xs ys W) := fun W hb => few_typ A n c B m d xs ys W (hA.below hb) (hB.below hb) hxl hyl hnc hmd hA0 hB0 hc9 hd9
  clear hA hB hxl hyl hnc hmd hA0 hB0 hc9 hd9
  unfold RetFewT at cfw0
  obtain ⟨us, hus⟩ : ∃ us, us = xs.take 8 := ⟨_, rfl⟩
  obtain ⟨vs, hvs⟩ : ∃ vs, vs = ys.take 8 := ⟨_, rfl⟩
  rw [← hus] at hk8 cfw0 hf
  rw [← hvs] at hl8 cfw0 hf
  clear hus hvs
  obtain ⟨k, hk⟩ : ∃ k, us.length = k := ⟨_, rfl⟩
  obtain ⟨l, hll⟩ : ∃ l, vs.length = l := ⟨_, rfl⟩
  have cfw : ∀ W (_ : Below w.heap.size w W), Calls Tryz.prog 12 #[.agg #[.slice A n c, .slice B m d]] W (fun e w' => ∃ A' c' B' d', e = .returned (.agg #[.slice (some A') k c', .slice (some B') l d']) ∧ IntsT w' (some A') us ∧ IntsT w' (some B') vs ∧ Below W.heap.size W w') := fun W hb => (cfw0 W hb).mono fun e w' ⟨A', c', B', d', h1, _, _, _, _, h2, h3, h4⟩ => ⟨A', c', B', d', by rw [h1, hk, hll], h2, h3, h4⟩
  clear cfw0
  have cl := lives_y (w := w)
  obtain ⟨w2, hw2⟩ : ∃ w2, narW wl wh 11 = w2 := ⟨_, rfl⟩
  obtain ⟨p2, hp2⟩ : ∃ p2, narW pl ph 5 = p2 := ⟨_, rfl⟩
  have hl2 := narW_lim hl (most := 11) (half := 5) (by omega) (by omega)
  rw [hw2, hp2] at hl2 hf
  have cn : ∀ W (_ : Below w.heap.size w W), Calls Tryz.prog 11 #[.agg #[.int .i64 wl, .int .i64 wh, .int .i64 pl, .int .i64 ph, .int .i64 st], .int .i64 11] W (RetW (.agg #[.int .i64 wl, .int .i64 w2, .int .i64 pl, .int .i64 p2, .int .i64 st]) W) := fun W _ => (narrow_ok wl wh pl ph st 11 5 w2 p2 W hl (by omega) (by omega) rfl hw2 hp2).mono fun e w' h => RetW.of h
  have clim : ∀ W (_ : Below w.heap.size w W), Calls Tryz.prog 13 #[.agg #[.int .i64 wl, .int .i64 w2, .int .i64 pl, .int .i64 p2, .int .i64 st]] W (RetW (.bool true) W) := fun W _ => by
    have := rlimits_any wl w2 pl p2 st W
    rw [decide_eq_true hl2] at this
    exact this.mono fun e w' h => RetW.of h
  clear hw2 hp2
  have hfok := hz
  have cv := valid_y a b true (decide_eq_true hfok) (w := w)
  have d1 : decide (a ≤ 0) = true := decide_eq_true (by omega)
  obtain ⟨W3, hW3⟩ : ∃ W3, W3 = ((w.alloc (.cells #[.slice A n c, .slice B m d] 24)).alloc (.cells #[.int .i64 wl, .int .i64 wh, .int .i64 pl, .int .i64 ph, .int .i64 st] 26)).alloc (.cells #[.int .i64 a, .int .i64 b] 28) := ⟨_, rfl⟩
  have s1 : (w.alloc (.cells #[.slice A n c, .slice B m d] 24)).heap.size = w.heap.size + 1 := by simp
  have s2 : ((w.alloc (.cells #[.slice A n c, .slice B m d] 24)).alloc (.cells #[.int .i64 wl, .int .i64 wh, .int .i64 pl, .int .i64 ph, .int .i64 st] 26)).heap.size = w.heap.size + 1 + 1 := by simp
  have hB3 : Below w.heap.size w W3 := by rw [hW3]; exact (((Below.refl _ _).alloc (Nat.le_refl _) _).alloc (by simp) _).alloc (by simp; omega) _
  have HBW := Lib.hid hB3
  have HF := Lib.hid (show Two W3 w.heap.size (.slice A n c) (.slice B m d) 24 by rw [hW3]; exact ((Two.newAt _ _ _ _ _ rfl).alloc _).alloc _)
  have HL := Lib.hid (show Five W3 (w.heap.size + 1) (.int .i64 wl) (.int .i64 wh) (.int .i64 pl) (.int .i64 ph) (.int .i64 st) 26 by
    rw [hW3]
    exact (Five.newAt _ _ _ _ _ _ _ (w.heap.size + 1) s1.symm).below ((Below.refl (w.heap.size + 1 + 1) _).alloc (by rw [s2]; exact Nat.le_refl _) _) (by omega))
  have HZ := Lib.hid (show Two W3 (w.heap.size + 1 + 1) (.int .i64 a) (.int .i64 b) 28 by rw [hW3]; exact Two.newAt _ _ _ _ _ s2.symm)
  clear hB3 s1 s2
  have HK8 := Lib.hid hk8
  have HL8 := Lib.hid hl8
  have HFI := Lib.hid hf
  have HLL := Lib.hid (And.intro hk hll)
  clear hk8 hl8 hf
  clear hk hll hfok hz hpos hl hl2
  go_enter Tryz.func3, Tryz.ntmps3
  go_upto_region 1 with fail
  rw [← hW3]
  clear hW3
  refine Lex.wp_region_mix (fun w' => Two w' w.heap.size (.slice A n c) (.slice B m d) 24 ∧ Five w' (w.heap.size + 1) (.int .i64 wl) (.int .i64 wh) (.int .i64 pl) (.int .i64 ph) (.int .i64 st) 26 ∧ Two w' (w.heap.size + 1 + 1) (.int .i64 a) (.int .i64 b) 28)
    [(0, 12), (1, 13), (2, 14), (3, 15), (4, 7), (5, 8)] (fun j => j == 0 || j == 2) (fun j => j == 4 || j == 5) [(6, false), (7, false)]
    (fun i v w' => match i with | 0 => v = .agg #[.int .i64 wl, .int .i64 wh, .int .i64 pl, .int .i64 ph, .int .i64 st] | 1 => v = .agg #[.int .i64 wl, .int .i64 w2, .int .i64 pl, .int .i64 p2, .int .i64 st] | 2 => v = .agg #[.slice A n c, .slice B m d] | 3 => ∃ A' c' B' d', v = (.agg #[.slice (some A') k c', .slice (some B') l d']) ∧ IntsT w' (some A') us ∧ IntsT w' (some B') vs | 4 => ∃ B, v = .pointer (some ⟨B, 0, none⟩) ∧ W3.heap.size ≤ B ∧ Five w' B (.int .i64 0) (.int .i64 0) (.int .i64 0) (.int .i64 0) (.int .i64 0) 26 | 5 => ∃ B, v = .pointer (some ⟨B, 0, none⟩) ∧ W3.heap.size ≤ B ∧ Two w' B (.slice none 0 0) (.slice none 0 0) 24 | _ => False)
    (by kernel_rfl) (by kernel_rfl) (by kernel_rfl) ⟨HF.out, HL.out, HZ.out⟩ (fun w1 w2 hS hb => ⟨hS.1.below hb hS.1.lt, hS.2.1.below hb hS.2.1.lt, hS.2.2.below hb hS.2.2.lt⟩) ?_ ?_ ?_
  · refine Lex.all_cons ?_ (Lex.all_cons ?_ (Lex.all_cons ?_ (Lex.all_cons ?_ (Lex.all_cons ?_ (Lex.all_cons ?_ (Lex.all_nil))))))
    · exact fun v w1 w2 h _ => h
    · exact fun v w1 w2 h _ => h
    · exact fun v w1 w2 h _ => h
    · exact fun v w1 w2 ⟨A', c', B', d', hv, h1, h2⟩ hb => ⟨A', c', B', d', hv, h1.below hb, h2.below hb⟩
    · exact fun v w1 w2 ⟨B, hv, hl, hT⟩ hb => ⟨B, hv, hl, hT.below hb hT.lt⟩
    · exact fun v w1 w2 ⟨B, hv, hl, hT⟩ hb => ⟨B, hv, hl, hT.below hb hT.lt⟩
  · refine Lex.all_cons ?_ (Lex.all_cons ?_ (Lex.all_cons ?_ (Lex.all_cons ?_ (Lex.all_cons ?_ (Lex.all_cons ?_ (Lex.all_nil))))))
    · refine Lex.ob_eager rfl rfl (fun σ w1 hS hB hg => ⟨.agg #[.int .i64 wl, .int .i64 wh, .int .i64 pl, .int .i64 ph, .int .i64 st], rfl, fun w2 hS => ?_, rfl⟩)
      clear hg
      simp only [Lex.full, Act.put, List.setIfInBounds_toArray, List.set_cons_zero, List.set_cons_succ]
      have f1_0 := hS.2.1.cell0
      have f1_1 := hS.2.1.cell1
      have f1_2 := hS.2.1.cell2
      have f1_3 := hS.2.1.cell3
      have f1_4 := hS.2.1.cell4
      clear hS
      go_simp
      all_goals with_reducible rfl
    · refine Lex.ob_step rfl rfl rfl (fun σ w1 hS hB hg K hK => ?_)
      have HK := Lib.hid hK
      clear hK
      have g0 : (σ 0) = .agg #[.int .i64 wl, .int .i64 wh, .int .i64 pl, .int .i64 ph, .int .i64 st] := hg (0, 12) (by simp) (by kernel_rfl)
      clear hg
      simp only [Lex.full, Act.put, List.setIfInBounds_toArray, List.set_cons_zero, List.set_cons_succ]
      simp only [g0]
      have hw1 : Below w.heap.size w w1 := HBW.out.drew.trans (hB.mono HBW.out.size)
      have cc := cn w1 hw1
      go_wp2_with fail
      refine cc.mono ?_
      rintro e w2 ⟨v1, rfl, rfl, hn⟩
      clear cc
      go_wp2_with fail
      exact HK.out _ _ ⟨rfl, hn, rfl, fun h => nomatch h⟩
    · refine Lex.ob_eager rfl rfl (fun σ w1 hS hB hg => ⟨.agg #[.slice A n c, .slice B m d], rfl, fun w2 hS => ?_, rfl⟩)
      clear hg
      simp only [Lex.full, Act.put, List.setIfInBounds_toArray, List.set_cons_zero, List.set_cons_succ]
      have f0_0 := hS.1.cell0
      have f0_1 := hS.1.cell1
      clear hS
      go_simp
      all_goals with_reducible rfl
    · refine Lex.ob_step rfl rfl rfl (fun σ w1 hS hB hg K hK => ?_)
      have HK := Lib.hid hK
      clear hK
      have g2 : (σ 2) = .agg #[.slice A n c, .slice B m d] := hg (2, 14) (by simp) (by kernel_rfl)
      clear hg
      simp only [Lex.full, Act.put, List.setIfInBounds_toArray, List.set_cons_zero, List.set_cons_succ]
      simp only [g2]
      have hw1 : Below w.heap.size w w1 := HBW.out.drew.trans (hB.mono HBW.out.size)
      have cc := cfw w1 hw1
      go_wp2_with fail
      refine cc.mono ?_
      rintro e w2 ⟨A', c', B', d', rfl, hI1, hI2, hn⟩
      clear cc
      go_wp2_with fail
      exact HK.out _ _ ⟨rfl, hn, ⟨A', c', B', d', rfl, hI1, hI2⟩, fun h => nomatch h⟩
    · refine Lex.ob_step rfl rfl rfl (fun σ w1 hS hB hg K hK => ?_)
      have HK := Lib.hid hK
      clear hK
      clear hg
      simp only [Lex.full, Act.put, List.setIfInBounds_toArray, List.set_cons_zero, List.set_cons_succ]
      go_wp2_with fail
      refine HK.out _ _ ⟨rfl, (Below.refl _ _).alloc (Nat.le_refl _) _, ⟨w1.heap.size, rfl, show W3.heap.size ≤ _ from hB.size, Five.newAt _ _ _ _ _ _ _ _ rfl⟩, fun _ => ?_⟩
      refine Lex.all_cons ?_ (Lex.all_cons ?_ (Lex.all_cons ?_ (Lex.all_cons ?_ (Lex.all_cons ?_ (Lex.all_cons ?_ (Lex.all_nil))))))
      · intro u h; cases h
      · intro u h; cases h
      · intro u h; cases h
      · intro u h; cases h
      · rintro u _ ⟨B, rfl, _, hT⟩ he; have := hT.lt; have he : Value.pointer (some ⟨B, 0, none⟩) = .pointer (some ⟨w1.heap.size, 0, none⟩) := he; injection he with he; injection he with he; injection he with he; omega
      · rintro u _ ⟨B, rfl, _, hT⟩ he; have := hT.lt; have he : Value.pointer (some ⟨B, 0, none⟩) = .pointer (some ⟨w1.heap.size, 0, none⟩) := he; injection he with he; injection he with he; injection he with he; omega
    · refine Lex.ob_step rfl rfl rfl (fun σ w1 hS hB hg K hK => ?_)
      have HK := Lib.hid hK
      clear hK
      clear hg
      simp only [Lex.full, Act.put, List.setIfInBounds_toArray, List.set_cons_zero, List.set_cons_succ]
      go_wp2_with fail
      refine HK.out _ _ ⟨rfl, (Below.refl _ _).alloc (Nat.le_refl _) _, ⟨w1.heap.size, rfl, show W3.heap.size ≤ _ from hB.size, Two.newAt _ _ _ _ _ rfl⟩, fun _ => ?_⟩
      refine Lex.all_cons ?_ (Lex.all_cons ?_ (Lex.all_cons ?_ (Lex.all_cons ?_ (Lex.all_cons ?_ (Lex.all_cons ?_ (Lex.all_nil))))))
      · intro u h; cases h
      · intro u h; cases h
      · intro u h; cases h
      · intro u h; cases h
      · rintro u _ ⟨B, rfl, _, hT⟩ he; have := hT.lt; have he : Value.pointer (some ⟨B, 0, none⟩) = .pointer (some ⟨w1.heap.size, 0, none⟩) := he; injection he with he; injection he with he; injection he with he; omega
      · rintro u _ ⟨B, rfl, _, hT⟩ he; have := hT.lt; have he : Value.pointer (some ⟨B, 0, none⟩) = .pointer (some ⟨w1.heap.size, 0, none⟩) := he; injection he with he; injection he with he; injection he with he; omega
  · intro σ V1_ hS hB hg hd
    have e0 : (σ 0) = .agg #[.int .i64 wl, .int .i64 wh, .int .i64 pl, .int .i64 ph, .int .i64 st] := hg (0, 12) (by simp)
    have e1 : (σ 1) = .agg #[.int .i64 wl, .int .i64 w2, .int .i64 pl, .int .i64 p2, .int .i64 st] := hg (1, 13) (by simp)
    have e2 : (σ 2) = .agg #[.slice A n c, .slice B m d] := hg (2, 14) (by simp)
    have e3 : ∃ A' c' B' d', (σ 3) = (.agg #[.slice (some A') k c', .slice (some B') l d']) ∧ IntsT V1_ (some A') us ∧ IntsT V1_ (some B') vs := hg (3, 15) (by simp)
    have e4 : ∃ B, (σ 4) = .pointer (some ⟨B, 0, none⟩) ∧ W3.heap.size ≤ B ∧ Five V1_ B (.int .i64 0) (.int .i64 0) (.int .i64 0) (.int .i64 0) (.int .i64 0) 26 := hg (4, 7) (by simp)
    have e5 : ∃ B, (σ 5) = .pointer (some ⟨B, 0, none⟩) ∧ W3.heap.size ≤ B ∧ Two V1_ B (.slice none 0 0) (.slice none 0 0) 24 := hg (5, 8) (by simp)
    have n1_4_5 : σ 4 ≠ σ 5 := hd (4, 7) (by simp) (5, 8) (by simp) (by decide) rfl rfl
    clear hg hd
    simp only [Lex.full, Act.put, List.setIfInBounds_toArray, List.set_cons_zero, List.set_cons_succ]
    generalize σ 0 = s1_0 at *
    generalize σ 1 = s1_1 at *
    generalize σ 2 = s1_2 at *
    generalize σ 3 = s1_3 at *
    generalize σ 4 = s1_4 at *
    generalize σ 5 = s1_5 at *
    clear σ
    subst e0
    subst e1
    subst e2
    obtain ⟨A', c', B', d', rfl, hI1, hI2⟩ := e3
    obtain ⟨B1_4, rfl, l1_4, T4⟩ := e4
    have HT1_4 := Lib.hid T4
    clear T4
    obtain ⟨B1_5, rfl, l1_5, T5⟩ := e5
    have HT1_5 := Lib.hid T5
    clear T5
    replace n1_4_5 : B1_4 ≠ B1_5 := fun e => n1_4_5 (by rw [e])
    have HBm := Lib.hid (show Below w.heap.size w V1_ from HBW.out.drew.trans (hB.mono HBW.out.size))
    have HBb := Lib.hid (show Below W3.heap.size W3 V1_ from ⟨hB.os, hB.tape, hB.output, hB.size, hB.block⟩)
    have HSm := Lib.hid hS
    clear hB hS
    have l1_x := HF.out.lt
    have G1_x := Lib.hid HSm.out.1
    have l1_y := HL.out.lt
    have G1_y := Lib.hid HSm.out.2.1
    have l1_z := HZ.out.lt
    have G1_z := Lib.hid HSm.out.2.2
    have lw1 := HBW.out.size
    clear HSm HBb HF HL HZ HBW
    have Y1_i1 := Lib.hid hI1
    clear hI1
    have Y1_i2 := Lib.hid hI2
    clear hI2
    refine Lex.lex_do rfl ?_
    have r0 := HT1_4.out.cell0
    have g0 := HT1_4.out.free 0
    have r1 := HT1_4.out.cell1
    have g1 := HT1_4.out.free 1
    have r2 := HT1_4.out.cell2
    have g2 := HT1_4.out.free 2
    have r3 := HT1_4.out.cell3
    have g3 := HT1_4.out.free 3
    have r4 := HT1_4.out.cell4
    have g4 := HT1_4.out.free 4
    obtain ⟨V1_s1, hV1⟩ : ∃ V1_s1, V1_s1 = (((((V1_.setCell ⟨B1_4, 0, none⟩ (.int .i64 wl)).setCell ⟨B1_4, 1, none⟩ (.int .i64 w2)).setCell ⟨B1_4, 2, none⟩ (.int .i64 pl)).setCell ⟨B1_4, 3, none⟩ (.int .i64 p2)).setCell ⟨B1_4, 4, none⟩ (.int .i64 st)) := ⟨_, rfl⟩
    have HV1 := Lib.hid hV1
    clear hV1
    go_wp2_with fail
    rw [← HV1.out]
    clear r0 g0 r1 g1 r2 g2 r3 g3 r4 g4
    have G1_xs := Lib.hid (show Two V1_s1 w.heap.size (.slice A n c) (.slice B m d) 24 by rw [HV1.out]; exact (((((G1_x.out.setOther ⟨B1_4, 0, none⟩ _ (by dsimp only; omega)).setOther ⟨B1_4, 1, none⟩ _ (by dsimp only; omega)).setOther ⟨B1_4, 2, none⟩ _ (by dsimp only; omega)).setOther ⟨B1_4, 3, none⟩ _ (by dsimp only; omega)).setOther ⟨B1_4, 4, none⟩ _ (by dsimp only; omega)))
    have G1_ys := Lib.hid (show Five V1_s1 (w.heap.size + 1) (.int .i64 wl) (.int .i64 wh) (.int .i64 pl) (.int .i64 ph) (.int .i64 st) 26 by rw [HV1.out]; exact (((((G1_y.out.setOther ⟨B1_4, 0, none⟩ _ (by dsimp only; omega)).setOther ⟨B1_4, 1, none⟩ _ (by dsimp only; omega)).setOther ⟨B1_4, 2, none⟩ _ (by dsimp only; omega)).setOther ⟨B1_4, 3, none⟩ _ (by dsimp only; omega)).setOther ⟨B1_4, 4, none⟩ _ (by dsimp only; omega)))
    have G1_zs := Lib.hid (show Two V1_s1 (w.heap.size + 1 + 1) (.int .i64 a) (.int .i64 b) 28 by rw [HV1.out]; exact (((((G1_z.out.setOther ⟨B1_4, 0, none⟩ _ (by dsimp only; omega)).setOther ⟨B1_4, 1, none⟩ _ (by dsimp only; omega)).setOther ⟨B1_4, 2, none⟩ _ (by dsimp only; omega)).setOther ⟨B1_4, 3, none⟩ _ (by dsimp only; omega)).setOther ⟨B1_4, 4, none⟩ _ (by dsimp only; omega)))
    replace HT1_5 := Lib.hid (show Two V1_s1 _ _ _ _ by rw [HV1.out]; exact (((((HT1_5.out.setOther ⟨B1_4, 0, none⟩ _ (by dsimp only; omega)).setOther ⟨B1_4, 1, none⟩ _ (by dsimp only; omega)).setOther ⟨B1_4, 2, none⟩ _ (by dsimp only; omega)).setOther ⟨B1_4, 3, none⟩ _ (by dsimp only; omega)).setOther ⟨B1_4, 4, none⟩ _ (by dsimp only; omega)))
    have G1_l := Lib.hid (show Five V1_s1 B1_4 (.int .i64 wl) (.int .i64 w2) (.int .i64 pl) (.int .i64 p2) (.int .i64 st) 26 by rw [HV1.out]; exact (((((HT1_4.out).set0 _).set1 _).set2 _).set3 _).set4 _)
    have Y1_i1s := Lib.hid (show IntsT V1_s1 (some A') us by rw [HV1.out]; exact IntsT.set5 Y1_i1.out HT1_4.out (by decide) _ _ _ _ _)
    clear Y1_i1
    have Y1_i2s := Lib.hid (show IntsT V1_s1 (some B') vs by rw [HV1.out]; exact IntsT.set5 Y1_i2.out HT1_4.out (by decide) _ _ _ _ _)
    clear Y1_i2
    have HB1_1 := Lib.hid (show Below w.heap.size w V1_s1 by rw [HV1.out]; exact (((((HBm.out.setCell (by dsimp only; omega) _).setCell (by dsimp only; omega) _).setCell (by dsimp only; omega) _).setCell (by dsimp only; omega) _).setCell (by dsimp only; omega) _))
    clear HV1 HT1_4 HBm G1_x G1_y G1_z
    refine Lex.lexQ_normal (fun _ => ⟨G1_xs.out, G1_ys.out, G1_zs.out⟩) ?_
    refine Lex.lex_do rfl ?_
    have r0 := HT1_5.out.cell0
    have g0 := HT1_5.out.free 0
    have r1 := HT1_5.out.cell1
    have g1 := HT1_5.out.free 1
    obtain ⟨V1_s2, hV1⟩ : ∃ V1_s2, V1_s2 = ((V1_s1.setCell ⟨B1_5, 0, none⟩ ((.slice (some A') k c'))).setCell ⟨B1_5, 1, none⟩ ((.slice (some B') l d'))) := ⟨_, rfl⟩
    have HV1 := Lib.hid hV1
    clear hV1
    go_wp2_with fail
    rw [← HV1.out]
    clear r0 g0 r1 g1
    have G1_xss := Lib.hid (show Two V1_s2 w.heap.size (.slice A n c) (.slice B m d) 24 by rw [HV1.out]; exact ((G1_xs.out.setOther ⟨B1_5, 0, none⟩ _ (by dsimp only; omega)).setOther ⟨B1_5, 1, none⟩ _ (by dsimp only; omega)))
    have G1_yss := Lib.hid (show Five V1_s2 (w.heap.size + 1) (.int .i64 wl) (.int .i64 wh) (.int .i64 pl) (.int .i64 ph) (.int .i64 st) 26 by rw [HV1.out]; exact ((G1_ys.out.setOther ⟨B1_5, 0, none⟩ _ (by dsimp only; omega)).setOther ⟨B1_5, 1, none⟩ _ (by dsimp only; omega)))
    have G1_zss := Lib.hid (show Two V1_s2 (w.heap.size + 1 + 1) (.int .i64 a) (.int .i64 b) 28 by rw [HV1.out]; exact ((G1_zs.out.setOther ⟨B1_5, 0, none⟩ _ (by dsimp only; omega)).setOther ⟨B1_5, 1, none⟩ _ (by dsimp only; omega)))
    have G1_ls := Lib.hid (show Five V1_s2 B1_4 (.int .i64 wl) (.int .i64 w2) (.int .i64 pl) (.int .i64 p2) (.int .i64 st) 26 by rw [HV1.out]; exact ((G1_l.out.setOther ⟨B1_5, 0, none⟩ _ (by dsimp only; omega)).setOther ⟨B1_5, 1, none⟩ _ (by dsimp only; omega)))
    have G1_u := Lib.hid (show Two V1_s2 B1_5 (.slice (some A') k c') (.slice (some B') l d') 24 by rw [HV1.out]; exact (HT1_5.out.set0 _).set1 _)
    have Y1_i1ss := Lib.hid (show IntsT V1_s2 (some A') us by rw [HV1.out]; exact IntsT.set01 Y1_i1s.out HT1_5.out (by decide) _ _)
    clear Y1_i1s
    have Y1_i2ss := Lib.hid (show IntsT V1_s2 (some B') vs by rw [HV1.out]; exact IntsT.set01 Y1_i2s.out HT1_5.out (by decide) _ _)
    clear Y1_i2s
    have HB1_2 := Lib.hid (show Below w.heap.size w V1_s2 by rw [HV1.out]; exact ((HB1_1.out.setCell (by dsimp only; omega) _).setCell (by dsimp only; omega) _))
    clear HV1 HT1_5 HB1_1 G1_xs G1_ys G1_zs G1_l
    refine Lex.lexQ_normal (fun _ => ⟨G1_xss.out, G1_yss.out, G1_zss.out⟩) ?_
    refine Lex.lex_nil ?_
    clear G1_xss G1_yss
    clear cn cfw
    have cg : ∀ W (_ : Below w.heap.size w W) (_ : Below V1_s2.heap.size V1_s2 W), Calls Tryz.prog 15 #[(.agg #[.slice (some A') k c', .slice (some B') l d']), .agg #[.int .i64 wl, .int .i64 w2, .int .i64 pl, .int .i64 p2, .int .i64 st]] W (RetW (.bool false) W) := fun W _ hb => (rfits_any (some A') k c' (some B') l d' us vs wl w2 pl p2 st (false, ()) W (Y1_i1ss.out.1.below hb) (Y1_i2ss.out.1.below hb) HLL.out.1 HLL.out.2 (by rw [← HLL.out.1]; exact HK8.out) (by rw [← HLL.out.2]; exact HL8.out) (decide_eq_false HFI.out)).mono fun e w' h => RetW.of h
    have HRU := Lib.hid (Below.refl V1_s2.heap.size V1_s2)
    clear Y1_i1ss Y1_i2ss
    clear HK8 HL8 HFI HLL
    have k0_0 := G1_ls.out.cell0
    have k0_1 := G1_ls.out.cell1
    have k0_2 := G1_ls.out.cell2
    have k0_3 := G1_ls.out.cell3
    have k0_4 := G1_ls.out.cell4
    have hb20 := Below.refl V1_s2.heap.size V1_s2
    have hw20 := HB1_2.out
    have cc := clim V1_s2 hw20
    go_wp2_with fail
    refine cc.mono ?_
    rintro e V21 ⟨v21, rfl, hm21, hn21⟩
    have hb21 := hb20.trans (hn21.mono hb20.size)
    have hw21 := hw20.trans (hn21.mono hw20.size)
    subst hm21
    clear cc hb20 hw20 hn21
    clear k0_0 k0_1 k0_2 k0_3 k0_4
    have k0_0 := (G1_ls.out.below hb21 G1_ls.out.lt).cell0
    have k0_1 := (G1_ls.out.below hb21 G1_ls.out.lt).cell1
    have k0_2 := (G1_ls.out.below hb21 G1_ls.out.lt).cell2
    have k0_3 := (G1_ls.out.below hb21 G1_ls.out.lt).cell3
    have k0_4 := (G1_ls.out.below hb21 G1_ls.out.lt).cell4
    clear k0_0 k0_1 k0_2 k0_3 k0_4
    have F3_z := Lib.hid (G1_zss.out.below hb21 G1_zss.out.lt)
    have F3_l := Lib.hid (G1_ls.out.below hb21 G1_ls.out.lt)
    have F3_u := Lib.hid (G1_u.out.below hb21 G1_u.out.lt)
    have R3_u := Lib.hid (HRU.out.trans (hb21.mono HRU.out.size))
    have B3_ := Lib.hid hw21
    clear hb21 hw21 G1_zss G1_ls G1_u HB1_2 HRU
    have HSZ := Lib.hid R3_u.out.size
    clear clim
    have q0_0 := F3_z.out.cell0
    have q0_1 := F3_z.out.cell1
    have hb0_ := Below.refl V21.heap.size V21
    have hw0_ := B3_.out
    obtain ⟨NB_, hNB⟩ : ∃ NB_, NB_ = V21.heap.size := ⟨_, rfl⟩
    obtain ⟨U4, hU⟩ : ∃ U4, U4 = V21.alloc (.cells #[.int .i64 a, .int .i64 b] 28) := ⟨_, rfl⟩
    have HU := Lib.hid (show U4 = _ ∧ NB_ = _ from ⟨hU, hNB⟩)
    clear hU hNB
    go_upto_region 5 with fail
    clear q0_0 q0_1
    rw [← HU.out.2, ← HU.out.1]
    have hbU := hb0_.alloc hb0_.size (.cells #[.int .i64 a, .int .i64 b] 28)
    have hwU := hw0_.alloc hw0_.size (.cells #[.int .i64 a, .int .i64 b] 28)
    rw [← HU.out.1] at hbU hwU
    have F4_z := Lib.hid (F3_z.out.below hbU F3_z.out.lt)
    have F4_l := Lib.hid (F3_l.out.below hbU F3_l.out.lt)
    have F4_u := Lib.hid (F3_u.out.below hbU F3_u.out.lt)
    have O4_z := Lib.hid (show (w.heap.size + 1 + 1) < NB_ by rw [HU.out.2]; exact (F3_z.out.below hb0_ F3_z.out.lt).lt)
    have O4_l := Lib.hid (show B1_4 < NB_ by rw [HU.out.2]; exact (F3_l.out.below hb0_ F3_l.out.lt).lt)
    have O4_u := Lib.hid (show B1_5 < NB_ by rw [HU.out.2]; exact (F3_u.out.below hb0_ F3_u.out.lt).lt)
    have OW4 := Lib.hid (show w.heap.size ≤ NB_ by rw [HU.out.2]; exact hw0_.size)
    have F4_t := Lib.hid (show Two U4 NB_ (.int .i64 a) (.int .i64 b) 28 by rw [HU.out.1, HU.out.2]; exact Two.newAt _ _ _ _ _ rfl)
    have R4_u := Lib.hid (R3_u.out.trans (hbU.mono R3_u.out.size))
    have OV4 := Lib.hid (show Below V21.heap.size V21 U4 by rw [HU.out.1]; exact (Below.refl _ _).alloc (Nat.le_refl _) _)
    have OE4 := Lib.hid (show V21.heap.size ≤ NB_ by rw [HU.out.2]; exact Nat.le_refl _)
    have B4_ := Lib.hid hwU
    clear HU hbU hwU hb0_ hw0_ F3_z F3_l F3_u B3_ R3_u
    have HUV := Lib.hid (show V1_s2.heap.size ≤ NB_ from Nat.le_trans HSZ.out OE4.out)
    clear HSZ OV4 OE4
    clear F4_z
    have k0_0 := F4_u.out.cell0
    have k0_1 := F4_u.out.cell1
    have k1_0 := F4_l.out.cell0
    have k1_1 := F4_l.out.cell1
    have k1_2 := F4_l.out.cell2
    have k1_3 := F4_l.out.cell3
    have k1_4 := F4_l.out.cell4
    have hb50 := Below.refl U4.heap.size U4
    have hw50 := B4_.out
    have cc := cg U4 hw50 (R4_u.out.trans (hb50.mono R4_u.out.size))
    go_wp2_with fail
    refine cc.mono ?_
    rintro e V51 ⟨v51, rfl, hm51, hn51⟩
    have hb51 := hb50.trans (hn51.mono hb50.size)
    have hw51 := hw50.trans (hn51.mono hw50.size)
    subst hm51
    clear cc hb50 hw50 hn51
    clear k0_0 k0_1 k1_0 k1_1 k1_2 k1_3 k1_4
    have k0_0 := (F4_u.out.below hb51 F4_u.out.lt).cell0
    have k0_1 := (F4_u.out.below hb51 F4_u.out.lt).cell1
    have k1_0 := (F4_l.out.below hb51 F4_l.out.lt).cell0
    have k1_1 := (F4_l.out.below hb51 F4_l.out.lt).cell1
    have k1_2 := (F4_l.out.below hb51 F4_l.out.lt).cell2
    have k1_3 := (F4_l.out.below hb51 F4_l.out.lt).cell3
    have k1_4 := (F4_l.out.below hb51 F4_l.out.lt).cell4
    go_upto_region 7 with fail
    clear k0_0 k0_1 k1_0 k1_1 k1_2 k1_3 k1_4
    have F6_l := Lib.hid (F4_l.out.below hb51 F4_l.out.lt)
    have F6_u := Lib.hid (F4_u.out.below hb51 F4_u.out.lt)
    have F6_t := Lib.hid (F4_t.out.below hb51 F4_t.out.lt)
    have R6_u := Lib.hid (R4_u.out.trans (hb51.mono R4_u.out.size))
    have B6_ := Lib.hid hw51
    clear hb51 hw51 F4_l F4_u F4_t B4_ R4_u
    have k0_0 := F6_t.out.cell0
    have k0_1 := F6_t.out.cell1
    have hb70 := Below.refl V51.heap.size V51
    have hw70 := B6_.out
    have cc := cv V51 hw70
    go_wp2_with fail
    refine cc.mono ?_
    rintro e V71 ⟨v71, rfl, hm71, hn71⟩
    have hb71 := hb70.trans (hn71.mono hb70.size)
    have hw71 := hw70.trans (hn71.mono hw70.size)
    subst hm71
    clear cc hb70 hw70 hn71
    clear k0_0 k0_1
    have k0_0 := (F6_t.out.below hb71 F6_t.out.lt).cell0
    have k0_1 := (F6_t.out.below hb71 F6_t.out.lt).cell1
    clear cv
    go_upto_region 8 with fail
    clear k0_0 k0_1
    have F8_l := Lib.hid (F6_l.out.below hb71 F6_l.out.lt)
    have F8_u := Lib.hid (F6_u.out.below hb71 F6_u.out.lt)
    have F8_t := Lib.hid (F6_t.out.below hb71 F6_t.out.lt)
    have R8_u := Lib.hid (R6_u.out.trans (hb71.mono R6_u.out.size))
    have B8_ := Lib.hid hw71
    clear hb71 hw71 F6_l F6_u F6_t B6_ R6_u
    have hb90 := Below.refl V71.heap.size V71
    have hw90 := B8_.out
    have cc := cl V71 hw90
    go_wp2_with fail
    refine cc.mono ?_
    rintro e V91 ⟨v91, rfl, hm91, hn91⟩
    have hb91 := hb90.trans (hn91.mono hb90.size)
    have hw91 := hw90.trans (hn91.mono hw90.size)
    subst hm91
    clear cc hb90 hw90 hn91
    have HE := Lib.hid hw91
    clear hb91 hw91
    go_wp2
    go_ret
    exact ⟨rfl, HE.out⟩

set_option maxRecDepth 100000 in
set_option maxHeartbeats 6400000 in
theorem best_none (A : Option Addr) (n c : Nat) (B : Option Addr) (m d : Nat) (xs ys : List Int) (wl wh pl ph st a b : Int) (w : World) (hA : Ints .i64 w A xs) (hB : Ints .i64 w B ys) (hxl : xs.length = n) (hyl : ys.length = m) (hnc : n ≤ c) (hmd : m ≤ d) (hA0 : A = none → c = 0) (hB0 : B = none → d = 0) (hc9 : c ≤ 9223372036854775807) (hd9 : d ≤ 9223372036854775807) (hl : LimOk wl wh pl ph st) (hf : ¬ FitsOk (xs.take 8) (ys.take 8) wl (narW wl wh 11) pl (narW pl ph 5) st) (hz : FOk (a, b)) (hpos : 0 < a) (hex : exactM a b wl (narW wl wh 11) pl (narW pl ph 5) st = none) :
    Calls Tryz.prog 3 #[.agg #[.slice A n c, .slice B m d], .agg #[.int .i64 wl, .int .i64 wh, .int .i64 pl, .int .i64 ph, .int .i64 st], .agg #[.int .i64 a, .int .i64 b]] w (RetV (.bool true) w) := by
  have hk8 : (xs.take 8).length ≤ 8 := by simp; omega
  have hl8 : (ys.take 8).length ≤ 8 := by simp; omega
  have cfw0 : ∀ W (_ : Below w.heap.size w W), Calls Tryz.prog 12 #[.agg #[.slice A n c, .slice B m d]] W (RetFewT xs ys W) := fun W hb => few_typ A n c B m d xs ys W (hA.below hb) (hB.below hb) hxl hyl hnc hmd hA0 hB0 hc9 hd9
  clear hA hB hxl hyl hnc hmd hA0 hB0 hc9 hd9
  unfold RetFewT at cfw0
  obtain ⟨us, hus⟩ : ∃ us, us = xs.take 8 := ⟨_, rfl⟩
  obtain ⟨vs, hvs⟩ : ∃ vs, vs = ys.take 8 := ⟨_, rfl⟩
  rw [← hus] at hk8 cfw0 hf
  rw [← hvs] at hl8 cfw0 hf
  clear hus hvs
  obtain ⟨k, hk⟩ : ∃ k, us.length = k := ⟨_, rfl⟩
  obtain ⟨l, hll⟩ : ∃ l, vs.length = l := ⟨_, rfl⟩
  have cfw : ∀ W (_ : Below w.heap.size w W), Calls Tryz.prog 12 #[.agg #[.slice A n c, .slice B m d]] W (fun e w' => ∃ A' c' B' d', e = .returned (.agg #[.slice (some A') k c', .slice (some B') l d']) ∧ IntsT w' (some A') us ∧ IntsT w' (some B') vs ∧ Below W.heap.size W w') := fun W hb => (cfw0 W hb).mono fun e w' ⟨A', c', B', d', h1, _, _, _, _, h2, h3, h4⟩ => ⟨A', c', B', d', by rw [h1, hk, hll], h2, h3, h4⟩
  clear cfw0
  have cl := lives_y (w := w)
  obtain ⟨w2, hw2⟩ : ∃ w2, narW wl wh 11 = w2 := ⟨_, rfl⟩
  obtain ⟨p2, hp2⟩ : ∃ p2, narW pl ph 5 = p2 := ⟨_, rfl⟩
  have hl2 := narW_lim hl (most := 11) (half := 5) (by omega) (by omega)
  rw [hw2, hp2] at hl2 hf hex
  have cn : ∀ W (_ : Below w.heap.size w W), Calls Tryz.prog 11 #[.agg #[.int .i64 wl, .int .i64 wh, .int .i64 pl, .int .i64 ph, .int .i64 st], .int .i64 11] W (RetW (.agg #[.int .i64 wl, .int .i64 w2, .int .i64 pl, .int .i64 p2, .int .i64 st]) W) := fun W _ => (narrow_ok wl wh pl ph st 11 5 w2 p2 W hl (by omega) (by omega) rfl hw2 hp2).mono fun e w' h => RetW.of h
  have clim : ∀ W (_ : Below w.heap.size w W), Calls Tryz.prog 13 #[.agg #[.int .i64 wl, .int .i64 w2, .int .i64 pl, .int .i64 p2, .int .i64 st]] W (RetW (.bool true) W) := fun W _ => by
    have := rlimits_any wl w2 pl p2 st W
    rw [decide_eq_true hl2] at this
    exact this.mono fun e w' h => RetW.of h
  clear hw2 hp2
  have hfok := hz
  have cv := valid_y a b true (decide_eq_true hfok) (w := w)
  have d1 : decide (a ≤ 0) = false := decide_eq_false (by omega)
  have cex : ∀ W (_ : Below w.heap.size w W), Calls Tryz.prog 19 #[.agg #[.int .i64 a, .int .i64 b], .agg #[.int .i64 wl, .int .i64 w2, .int .i64 pl, .int .i64 p2, .int .i64 st]] W (RetX none W) := fun W _ => by
    have := exact_any a b wl w2 pl p2 st W hfok hl2 hpos
    rw [hex] at this
    exact this
  have cnn : ∀ W (_ : Below w.heap.size w W), Calls Tryz.prog 20 #[.agg #[.slice none 0 0, .slice none 0 0]] W (RetW (.bool true) W) := fun W _ => (none_nil W).mono fun e w' h => RetW.of h
  obtain ⟨W3, hW3⟩ : ∃ W3, W3 = ((w.alloc (.cells #[.slice A n c, .slice B m d] 24)).alloc (.cells #[.int .i64 wl, .int .i64 wh, .int .i64 pl, .int .i64 ph, .int .i64 st] 26)).alloc (.cells #[.int .i64 a, .int .i64 b] 28) := ⟨_, rfl⟩
  have s1 : (w.alloc (.cells #[.slice A n c, .slice B m d] 24)).heap.size = w.heap.size + 1 := by simp
  have s2 : ((w.alloc (.cells #[.slice A n c, .slice B m d] 24)).alloc (.cells #[.int .i64 wl, .int .i64 wh, .int .i64 pl, .int .i64 ph, .int .i64 st] 26)).heap.size = w.heap.size + 1 + 1 := by simp
  have hB3 : Below w.heap.size w W3 := by rw [hW3]; exact (((Below.refl _ _).alloc (Nat.le_refl _) _).alloc (by simp) _).alloc (by simp; omega) _
  have HBW := Lib.hid hB3
  have HF := Lib.hid (show Two W3 w.heap.size (.slice A n c) (.slice B m d) 24 by rw [hW3]; exact ((Two.newAt _ _ _ _ _ rfl).alloc _).alloc _)
  have HL := Lib.hid (show Five W3 (w.heap.size + 1) (.int .i64 wl) (.int .i64 wh) (.int .i64 pl) (.int .i64 ph) (.int .i64 st) 26 by
    rw [hW3]
    exact (Five.newAt _ _ _ _ _ _ _ (w.heap.size + 1) s1.symm).below ((Below.refl (w.heap.size + 1 + 1) _).alloc (by rw [s2]; exact Nat.le_refl _) _) (by omega))
  have HZ := Lib.hid (show Two W3 (w.heap.size + 1 + 1) (.int .i64 a) (.int .i64 b) 28 by rw [hW3]; exact Two.newAt _ _ _ _ _ s2.symm)
  clear hB3 s1 s2
  have HK8 := Lib.hid hk8
  have HL8 := Lib.hid hl8
  have HFI := Lib.hid hf
  have HLL := Lib.hid (And.intro hk hll)
  clear hk8 hl8 hf
  clear hk hll hfok hz hpos hex hl hl2
  go_enter Tryz.func3, Tryz.ntmps3
  go_upto_region 1 with fail
  rw [← hW3]
  clear hW3
  refine Lex.wp_region_mix (fun w' => Two w' w.heap.size (.slice A n c) (.slice B m d) 24 ∧ Five w' (w.heap.size + 1) (.int .i64 wl) (.int .i64 wh) (.int .i64 pl) (.int .i64 ph) (.int .i64 st) 26 ∧ Two w' (w.heap.size + 1 + 1) (.int .i64 a) (.int .i64 b) 28)
    [(0, 12), (1, 13), (2, 14), (3, 15), (4, 7), (5, 8)] (fun j => j == 0 || j == 2) (fun j => j == 4 || j == 5) [(6, false), (7, false)]
    (fun i v w' => match i with | 0 => v = .agg #[.int .i64 wl, .int .i64 wh, .int .i64 pl, .int .i64 ph, .int .i64 st] | 1 => v = .agg #[.int .i64 wl, .int .i64 w2, .int .i64 pl, .int .i64 p2, .int .i64 st] | 2 => v = .agg #[.slice A n c, .slice B m d] | 3 => ∃ A' c' B' d', v = (.agg #[.slice (some A') k c', .slice (some B') l d']) ∧ IntsT w' (some A') us ∧ IntsT w' (some B') vs | 4 => ∃ B, v = .pointer (some ⟨B, 0, none⟩) ∧ W3.heap.size ≤ B ∧ Five w' B (.int .i64 0) (.int .i64 0) (.int .i64 0) (.int .i64 0) (.int .i64 0) 26 | 5 => ∃ B, v = .pointer (some ⟨B, 0, none⟩) ∧ W3.heap.size ≤ B ∧ Two w' B (.slice none 0 0) (.slice none 0 0) 24 | _ => False)
    (by kernel_rfl) (by kernel_rfl) (by kernel_rfl) ⟨HF.out, HL.out, HZ.out⟩ (fun w1 w2 hS hb => ⟨hS.1.below hb hS.1.lt, hS.2.1.below hb hS.2.1.lt, hS.2.2.below hb hS.2.2.lt⟩) ?_ ?_ ?_
  · refine Lex.all_cons ?_ (Lex.all_cons ?_ (Lex.all_cons ?_ (Lex.all_cons ?_ (Lex.all_cons ?_ (Lex.all_cons ?_ (Lex.all_nil))))))
    · exact fun v w1 w2 h _ => h
    · exact fun v w1 w2 h _ => h
    · exact fun v w1 w2 h _ => h
    · exact fun v w1 w2 ⟨A', c', B', d', hv, h1, h2⟩ hb => ⟨A', c', B', d', hv, h1.below hb, h2.below hb⟩
    · exact fun v w1 w2 ⟨B, hv, hl, hT⟩ hb => ⟨B, hv, hl, hT.below hb hT.lt⟩
    · exact fun v w1 w2 ⟨B, hv, hl, hT⟩ hb => ⟨B, hv, hl, hT.below hb hT.lt⟩
  · refine Lex.all_cons ?_ (Lex.all_cons ?_ (Lex.all_cons ?_ (Lex.all_cons ?_ (Lex.all_cons ?_ (Lex.all_cons ?_ (Lex.all_nil))))))
    · refine Lex.ob_eager rfl rfl (fun σ w1 hS hB hg => ⟨.agg #[.int .i64 wl, .int .i64 wh, .int .i64 pl, .int .i64 ph, .int .i64 st], rfl, fun w2 hS => ?_, rfl⟩)
      clear hg
      simp only [Lex.full, Act.put, List.setIfInBounds_toArray, List.set_cons_zero, List.set_cons_succ]
      have f1_0 := hS.2.1.cell0
      have f1_1 := hS.2.1.cell1
      have f1_2 := hS.2.1.cell2
      have f1_3 := hS.2.1.cell3
      have f1_4 := hS.2.1.cell4
      clear hS
      go_simp
      all_goals with_reducible rfl
    · refine Lex.ob_step rfl rfl rfl (fun σ w1 hS hB hg K hK => ?_)
      have HK := Lib.hid hK
      clear hK
      have g0 : (σ 0) = .agg #[.int .i64 wl, .int .i64 wh, .int .i64 pl, .int .i64 ph, .int .i64 st] := hg (0, 12) (by simp) (by kernel_rfl)
      clear hg
      simp only [Lex.full, Act.put, List.setIfInBounds_toArray, List.set_cons_zero, List.set_cons_succ]
      simp only [g0]
      have hw1 : Below w.heap.size w w1 := HBW.out.drew.trans (hB.mono HBW.out.size)
      have cc := cn w1 hw1
      go_wp2_with fail
      refine cc.mono ?_
      rintro e w2 ⟨v1, rfl, rfl, hn⟩
      clear cc
      go_wp2_with fail
      exact HK.out _ _ ⟨rfl, hn, rfl, fun h => nomatch h⟩
    · refine Lex.ob_eager rfl rfl (fun σ w1 hS hB hg => ⟨.agg #[.slice A n c, .slice B m d], rfl, fun w2 hS => ?_, rfl⟩)
      clear hg
      simp only [Lex.full, Act.put, List.setIfInBounds_toArray, List.set_cons_zero, List.set_cons_succ]
      have f0_0 := hS.1.cell0
      have f0_1 := hS.1.cell1
      clear hS
      go_simp
      all_goals with_reducible rfl
    · refine Lex.ob_step rfl rfl rfl (fun σ w1 hS hB hg K hK => ?_)
      have HK := Lib.hid hK
      clear hK
      have g2 : (σ 2) = .agg #[.slice A n c, .slice B m d] := hg (2, 14) (by simp) (by kernel_rfl)
      clear hg
      simp only [Lex.full, Act.put, List.setIfInBounds_toArray, List.set_cons_zero, List.set_cons_succ]
      simp only [g2]
      have hw1 : Below w.heap.size w w1 := HBW.out.drew.trans (hB.mono HBW.out.size)
      have cc := cfw w1 hw1
      go_wp2_with fail
      refine cc.mono ?_
      rintro e w2 ⟨A', c', B', d', rfl, hI1, hI2, hn⟩
      clear cc
      go_wp2_with fail
      exact HK.out _ _ ⟨rfl, hn, ⟨A', c', B', d', rfl, hI1, hI2⟩, fun h => nomatch h⟩
    · refine Lex.ob_step rfl rfl rfl (fun σ w1 hS hB hg K hK => ?_)
      have HK := Lib.hid hK
      clear hK
      clear hg
      simp only [Lex.full, Act.put, List.setIfInBounds_toArray, List.set_cons_zero, List.set_cons_succ]
      go_wp2_with fail
      refine HK.out _ _ ⟨rfl, (Below.refl _ _).alloc (Nat.le_refl _) _, ⟨w1.heap.size, rfl, show W3.heap.size ≤ _ from hB.size, Five.newAt _ _ _ _ _ _ _ _ rfl⟩, fun _ => ?_⟩
      refine Lex.all_cons ?_ (Lex.all_cons ?_ (Lex.all_cons ?_ (Lex.all_cons ?_ (Lex.all_cons ?_ (Lex.all_cons ?_ (Lex.all_nil))))))
      · intro u h; cases h
      · intro u h; cases h
      · intro u h; cases h
      · intro u h; cases h
      · rintro u _ ⟨B, rfl, _, hT⟩ he; have := hT.lt; have he : Value.pointer (some ⟨B, 0, none⟩) = .pointer (some ⟨w1.heap.size, 0, none⟩) := he; injection he with he; injection he with he; injection he with he; omega
      · rintro u _ ⟨B, rfl, _, hT⟩ he; have := hT.lt; have he : Value.pointer (some ⟨B, 0, none⟩) = .pointer (some ⟨w1.heap.size, 0, none⟩) := he; injection he with he; injection he with he; injection he with he; omega
    · refine Lex.ob_step rfl rfl rfl (fun σ w1 hS hB hg K hK => ?_)
      have HK := Lib.hid hK
      clear hK
      clear hg
      simp only [Lex.full, Act.put, List.setIfInBounds_toArray, List.set_cons_zero, List.set_cons_succ]
      go_wp2_with fail
      refine HK.out _ _ ⟨rfl, (Below.refl _ _).alloc (Nat.le_refl _) _, ⟨w1.heap.size, rfl, show W3.heap.size ≤ _ from hB.size, Two.newAt _ _ _ _ _ rfl⟩, fun _ => ?_⟩
      refine Lex.all_cons ?_ (Lex.all_cons ?_ (Lex.all_cons ?_ (Lex.all_cons ?_ (Lex.all_cons ?_ (Lex.all_cons ?_ (Lex.all_nil))))))
      · intro u h; cases h
      · intro u h; cases h
      · intro u h; cases h
      · intro u h; cases h
      · rintro u _ ⟨B, rfl, _, hT⟩ he; have := hT.lt; have he : Value.pointer (some ⟨B, 0, none⟩) = .pointer (some ⟨w1.heap.size, 0, none⟩) := he; injection he with he; injection he with he; injection he with he; omega
      · rintro u _ ⟨B, rfl, _, hT⟩ he; have := hT.lt; have he : Value.pointer (some ⟨B, 0, none⟩) = .pointer (some ⟨w1.heap.size, 0, none⟩) := he; injection he with he; injection he with he; injection he with he; omega
  · intro σ V1_ hS hB hg hd
    have e0 : (σ 0) = .agg #[.int .i64 wl, .int .i64 wh, .int .i64 pl, .int .i64 ph, .int .i64 st] := hg (0, 12) (by simp)
    have e1 : (σ 1) = .agg #[.int .i64 wl, .int .i64 w2, .int .i64 pl, .int .i64 p2, .int .i64 st] := hg (1, 13) (by simp)
    have e2 : (σ 2) = .agg #[.slice A n c, .slice B m d] := hg (2, 14) (by simp)
    have e3 : ∃ A' c' B' d', (σ 3) = (.agg #[.slice (some A') k c', .slice (some B') l d']) ∧ IntsT V1_ (some A') us ∧ IntsT V1_ (some B') vs := hg (3, 15) (by simp)
    have e4 : ∃ B, (σ 4) = .pointer (some ⟨B, 0, none⟩) ∧ W3.heap.size ≤ B ∧ Five V1_ B (.int .i64 0) (.int .i64 0) (.int .i64 0) (.int .i64 0) (.int .i64 0) 26 := hg (4, 7) (by simp)
    have e5 : ∃ B, (σ 5) = .pointer (some ⟨B, 0, none⟩) ∧ W3.heap.size ≤ B ∧ Two V1_ B (.slice none 0 0) (.slice none 0 0) 24 := hg (5, 8) (by simp)
    have n1_4_5 : σ 4 ≠ σ 5 := hd (4, 7) (by simp) (5, 8) (by simp) (by decide) rfl rfl
    clear hg hd
    simp only [Lex.full, Act.put, List.setIfInBounds_toArray, List.set_cons_zero, List.set_cons_succ]
    generalize σ 0 = s1_0 at *
    generalize σ 1 = s1_1 at *
    generalize σ 2 = s1_2 at *
    generalize σ 3 = s1_3 at *
    generalize σ 4 = s1_4 at *
    generalize σ 5 = s1_5 at *
    clear σ
    subst e0
    subst e1
    subst e2
    obtain ⟨A', c', B', d', rfl, hI1, hI2⟩ := e3
    obtain ⟨B1_4, rfl, l1_4, T4⟩ := e4
    have HT1_4 := Lib.hid T4
    clear T4
    obtain ⟨B1_5, rfl, l1_5, T5⟩ := e5
    have HT1_5 := Lib.hid T5
    clear T5
    replace n1_4_5 : B1_4 ≠ B1_5 := fun e => n1_4_5 (by rw [e])
    have HBm := Lib.hid (show Below w.heap.size w V1_ from HBW.out.drew.trans (hB.mono HBW.out.size))
    have HBb := Lib.hid (show Below W3.heap.size W3 V1_ from ⟨hB.os, hB.tape, hB.output, hB.size, hB.block⟩)
    have HSm := Lib.hid hS
    clear hB hS
    have l1_x := HF.out.lt
    have G1_x := Lib.hid HSm.out.1
    have l1_y := HL.out.lt
    have G1_y := Lib.hid HSm.out.2.1
    have l1_z := HZ.out.lt
    have G1_z := Lib.hid HSm.out.2.2
    have lw1 := HBW.out.size
    clear HSm HBb HF HL HZ HBW
    have Y1_i1 := Lib.hid hI1
    clear hI1
    have Y1_i2 := Lib.hid hI2
    clear hI2
    refine Lex.lex_do rfl ?_
    have r0 := HT1_4.out.cell0
    have g0 := HT1_4.out.free 0
    have r1 := HT1_4.out.cell1
    have g1 := HT1_4.out.free 1
    have r2 := HT1_4.out.cell2
    have g2 := HT1_4.out.free 2
    have r3 := HT1_4.out.cell3
    have g3 := HT1_4.out.free 3
    have r4 := HT1_4.out.cell4
    have g4 := HT1_4.out.free 4
    obtain ⟨V1_s1, hV1⟩ : ∃ V1_s1, V1_s1 = (((((V1_.setCell ⟨B1_4, 0, none⟩ (.int .i64 wl)).setCell ⟨B1_4, 1, none⟩ (.int .i64 w2)).setCell ⟨B1_4, 2, none⟩ (.int .i64 pl)).setCell ⟨B1_4, 3, none⟩ (.int .i64 p2)).setCell ⟨B1_4, 4, none⟩ (.int .i64 st)) := ⟨_, rfl⟩
    have HV1 := Lib.hid hV1
    clear hV1
    go_wp2_with fail
    rw [← HV1.out]
    clear r0 g0 r1 g1 r2 g2 r3 g3 r4 g4
    have G1_xs := Lib.hid (show Two V1_s1 w.heap.size (.slice A n c) (.slice B m d) 24 by rw [HV1.out]; exact (((((G1_x.out.setOther ⟨B1_4, 0, none⟩ _ (by dsimp only; omega)).setOther ⟨B1_4, 1, none⟩ _ (by dsimp only; omega)).setOther ⟨B1_4, 2, none⟩ _ (by dsimp only; omega)).setOther ⟨B1_4, 3, none⟩ _ (by dsimp only; omega)).setOther ⟨B1_4, 4, none⟩ _ (by dsimp only; omega)))
    have G1_ys := Lib.hid (show Five V1_s1 (w.heap.size + 1) (.int .i64 wl) (.int .i64 wh) (.int .i64 pl) (.int .i64 ph) (.int .i64 st) 26 by rw [HV1.out]; exact (((((G1_y.out.setOther ⟨B1_4, 0, none⟩ _ (by dsimp only; omega)).setOther ⟨B1_4, 1, none⟩ _ (by dsimp only; omega)).setOther ⟨B1_4, 2, none⟩ _ (by dsimp only; omega)).setOther ⟨B1_4, 3, none⟩ _ (by dsimp only; omega)).setOther ⟨B1_4, 4, none⟩ _ (by dsimp only; omega)))
    have G1_zs := Lib.hid (show Two V1_s1 (w.heap.size + 1 + 1) (.int .i64 a) (.int .i64 b) 28 by rw [HV1.out]; exact (((((G1_z.out.setOther ⟨B1_4, 0, none⟩ _ (by dsimp only; omega)).setOther ⟨B1_4, 1, none⟩ _ (by dsimp only; omega)).setOther ⟨B1_4, 2, none⟩ _ (by dsimp only; omega)).setOther ⟨B1_4, 3, none⟩ _ (by dsimp only; omega)).setOther ⟨B1_4, 4, none⟩ _ (by dsimp only; omega)))
    replace HT1_5 := Lib.hid (show Two V1_s1 _ _ _ _ by rw [HV1.out]; exact (((((HT1_5.out.setOther ⟨B1_4, 0, none⟩ _ (by dsimp only; omega)).setOther ⟨B1_4, 1, none⟩ _ (by dsimp only; omega)).setOther ⟨B1_4, 2, none⟩ _ (by dsimp only; omega)).setOther ⟨B1_4, 3, none⟩ _ (by dsimp only; omega)).setOther ⟨B1_4, 4, none⟩ _ (by dsimp only; omega)))
    have G1_l := Lib.hid (show Five V1_s1 B1_4 (.int .i64 wl) (.int .i64 w2) (.int .i64 pl) (.int .i64 p2) (.int .i64 st) 26 by rw [HV1.out]; exact (((((HT1_4.out).set0 _).set1 _).set2 _).set3 _).set4 _)
    have Y1_i1s := Lib.hid (show IntsT V1_s1 (some A') us by rw [HV1.out]; exact IntsT.set5 Y1_i1.out HT1_4.out (by decide) _ _ _ _ _)
    clear Y1_i1
    have Y1_i2s := Lib.hid (show IntsT V1_s1 (some B') vs by rw [HV1.out]; exact IntsT.set5 Y1_i2.out HT1_4.out (by decide) _ _ _ _ _)
    clear Y1_i2
    have HB1_1 := Lib.hid (show Below w.heap.size w V1_s1 by rw [HV1.out]; exact (((((HBm.out.setCell (by dsimp only; omega) _).setCell (by dsimp only; omega) _).setCell (by dsimp only; omega) _).setCell (by dsimp only; omega) _).setCell (by dsimp only; omega) _))
    clear HV1 HT1_4 HBm G1_x G1_y G1_z
    refine Lex.lexQ_normal (fun _ => ⟨G1_xs.out, G1_ys.out, G1_zs.out⟩) ?_
    refine Lex.lex_do rfl ?_
    have r0 := HT1_5.out.cell0
    have g0 := HT1_5.out.free 0
    have r1 := HT1_5.out.cell1
    have g1 := HT1_5.out.free 1
    obtain ⟨V1_s2, hV1⟩ : ∃ V1_s2, V1_s2 = ((V1_s1.setCell ⟨B1_5, 0, none⟩ ((.slice (some A') k c'))).setCell ⟨B1_5, 1, none⟩ ((.slice (some B') l d'))) := ⟨_, rfl⟩
    have HV1 := Lib.hid hV1
    clear hV1
    go_wp2_with fail
    rw [← HV1.out]
    clear r0 g0 r1 g1
    have G1_xss := Lib.hid (show Two V1_s2 w.heap.size (.slice A n c) (.slice B m d) 24 by rw [HV1.out]; exact ((G1_xs.out.setOther ⟨B1_5, 0, none⟩ _ (by dsimp only; omega)).setOther ⟨B1_5, 1, none⟩ _ (by dsimp only; omega)))
    have G1_yss := Lib.hid (show Five V1_s2 (w.heap.size + 1) (.int .i64 wl) (.int .i64 wh) (.int .i64 pl) (.int .i64 ph) (.int .i64 st) 26 by rw [HV1.out]; exact ((G1_ys.out.setOther ⟨B1_5, 0, none⟩ _ (by dsimp only; omega)).setOther ⟨B1_5, 1, none⟩ _ (by dsimp only; omega)))
    have G1_zss := Lib.hid (show Two V1_s2 (w.heap.size + 1 + 1) (.int .i64 a) (.int .i64 b) 28 by rw [HV1.out]; exact ((G1_zs.out.setOther ⟨B1_5, 0, none⟩ _ (by dsimp only; omega)).setOther ⟨B1_5, 1, none⟩ _ (by dsimp only; omega)))
    have G1_ls := Lib.hid (show Five V1_s2 B1_4 (.int .i64 wl) (.int .i64 w2) (.int .i64 pl) (.int .i64 p2) (.int .i64 st) 26 by rw [HV1.out]; exact ((G1_l.out.setOther ⟨B1_5, 0, none⟩ _ (by dsimp only; omega)).setOther ⟨B1_5, 1, none⟩ _ (by dsimp only; omega)))
    have G1_u := Lib.hid (show Two V1_s2 B1_5 (.slice (some A') k c') (.slice (some B') l d') 24 by rw [HV1.out]; exact (HT1_5.out.set0 _).set1 _)
    have Y1_i1ss := Lib.hid (show IntsT V1_s2 (some A') us by rw [HV1.out]; exact IntsT.set01 Y1_i1s.out HT1_5.out (by decide) _ _)
    clear Y1_i1s
    have Y1_i2ss := Lib.hid (show IntsT V1_s2 (some B') vs by rw [HV1.out]; exact IntsT.set01 Y1_i2s.out HT1_5.out (by decide) _ _)
    clear Y1_i2s
    have HB1_2 := Lib.hid (show Below w.heap.size w V1_s2 by rw [HV1.out]; exact ((HB1_1.out.setCell (by dsimp only; omega) _).setCell (by dsimp only; omega) _))
    clear HV1 HT1_5 HB1_1 G1_xs G1_ys G1_zs G1_l
    refine Lex.lexQ_normal (fun _ => ⟨G1_xss.out, G1_yss.out, G1_zss.out⟩) ?_
    refine Lex.lex_nil ?_
    clear G1_xss G1_yss
    clear cn cfw
    have cg : ∀ W (_ : Below w.heap.size w W) (_ : Below V1_s2.heap.size V1_s2 W), Calls Tryz.prog 15 #[(.agg #[.slice (some A') k c', .slice (some B') l d']), .agg #[.int .i64 wl, .int .i64 w2, .int .i64 pl, .int .i64 p2, .int .i64 st]] W (RetW (.bool false) W) := fun W _ hb => (rfits_any (some A') k c' (some B') l d' us vs wl w2 pl p2 st (false, ()) W (Y1_i1ss.out.1.below hb) (Y1_i2ss.out.1.below hb) HLL.out.1 HLL.out.2 (by rw [← HLL.out.1]; exact HK8.out) (by rw [← HLL.out.2]; exact HL8.out) (decide_eq_false HFI.out)).mono fun e w' h => RetW.of h
    have HRU := Lib.hid (Below.refl V1_s2.heap.size V1_s2)
    clear Y1_i1ss Y1_i2ss
    clear HK8 HL8 HFI HLL
    have k0_0 := G1_ls.out.cell0
    have k0_1 := G1_ls.out.cell1
    have k0_2 := G1_ls.out.cell2
    have k0_3 := G1_ls.out.cell3
    have k0_4 := G1_ls.out.cell4
    have hb20 := Below.refl V1_s2.heap.size V1_s2
    have hw20 := HB1_2.out
    have cc := clim V1_s2 hw20
    go_wp2_with fail
    refine cc.mono ?_
    rintro e V21 ⟨v21, rfl, hm21, hn21⟩
    have hb21 := hb20.trans (hn21.mono hb20.size)
    have hw21 := hw20.trans (hn21.mono hw20.size)
    subst hm21
    clear cc hb20 hw20 hn21
    clear k0_0 k0_1 k0_2 k0_3 k0_4
    have k0_0 := (G1_ls.out.below hb21 G1_ls.out.lt).cell0
    have k0_1 := (G1_ls.out.below hb21 G1_ls.out.lt).cell1
    have k0_2 := (G1_ls.out.below hb21 G1_ls.out.lt).cell2
    have k0_3 := (G1_ls.out.below hb21 G1_ls.out.lt).cell3
    have k0_4 := (G1_ls.out.below hb21 G1_ls.out.lt).cell4
    clear k0_0 k0_1 k0_2 k0_3 k0_4
    have F3_z := Lib.hid (G1_zss.out.below hb21 G1_zss.out.lt)
    have F3_l := Lib.hid (G1_ls.out.below hb21 G1_ls.out.lt)
    have F3_u := Lib.hid (G1_u.out.below hb21 G1_u.out.lt)
    have R3_u := Lib.hid (HRU.out.trans (hb21.mono HRU.out.size))
    have B3_ := Lib.hid hw21
    clear hb21 hw21 G1_zss G1_ls G1_u HB1_2 HRU
    have HSZ := Lib.hid R3_u.out.size
    clear clim
    have q0_0 := F3_z.out.cell0
    have q0_1 := F3_z.out.cell1
    have hb0_ := Below.refl V21.heap.size V21
    have hw0_ := B3_.out
    obtain ⟨NB_, hNB⟩ : ∃ NB_, NB_ = V21.heap.size := ⟨_, rfl⟩
    obtain ⟨U4, hU⟩ : ∃ U4, U4 = V21.alloc (.cells #[.int .i64 a, .int .i64 b] 28) := ⟨_, rfl⟩
    have HU := Lib.hid (show U4 = _ ∧ NB_ = _ from ⟨hU, hNB⟩)
    clear hU hNB
    go_upto_region 5 with fail
    clear q0_0 q0_1
    rw [← HU.out.2, ← HU.out.1]
    have hbU := hb0_.alloc hb0_.size (.cells #[.int .i64 a, .int .i64 b] 28)
    have hwU := hw0_.alloc hw0_.size (.cells #[.int .i64 a, .int .i64 b] 28)
    rw [← HU.out.1] at hbU hwU
    have F4_z := Lib.hid (F3_z.out.below hbU F3_z.out.lt)
    have F4_l := Lib.hid (F3_l.out.below hbU F3_l.out.lt)
    have F4_u := Lib.hid (F3_u.out.below hbU F3_u.out.lt)
    have O4_z := Lib.hid (show (w.heap.size + 1 + 1) < NB_ by rw [HU.out.2]; exact (F3_z.out.below hb0_ F3_z.out.lt).lt)
    have O4_l := Lib.hid (show B1_4 < NB_ by rw [HU.out.2]; exact (F3_l.out.below hb0_ F3_l.out.lt).lt)
    have O4_u := Lib.hid (show B1_5 < NB_ by rw [HU.out.2]; exact (F3_u.out.below hb0_ F3_u.out.lt).lt)
    have OW4 := Lib.hid (show w.heap.size ≤ NB_ by rw [HU.out.2]; exact hw0_.size)
    have F4_t := Lib.hid (show Two U4 NB_ (.int .i64 a) (.int .i64 b) 28 by rw [HU.out.1, HU.out.2]; exact Two.newAt _ _ _ _ _ rfl)
    have R4_u := Lib.hid (R3_u.out.trans (hbU.mono R3_u.out.size))
    have OV4 := Lib.hid (show Below V21.heap.size V21 U4 by rw [HU.out.1]; exact (Below.refl _ _).alloc (Nat.le_refl _) _)
    have OE4 := Lib.hid (show V21.heap.size ≤ NB_ by rw [HU.out.2]; exact Nat.le_refl _)
    have B4_ := Lib.hid hwU
    clear HU hbU hwU hb0_ hw0_ F3_z F3_l F3_u B3_ R3_u
    have HUV := Lib.hid (show V1_s2.heap.size ≤ NB_ from Nat.le_trans HSZ.out OE4.out)
    clear HSZ OV4 OE4
    clear F4_z
    have k0_0 := F4_u.out.cell0
    have k0_1 := F4_u.out.cell1
    have k1_0 := F4_l.out.cell0
    have k1_1 := F4_l.out.cell1
    have k1_2 := F4_l.out.cell2
    have k1_3 := F4_l.out.cell3
    have k1_4 := F4_l.out.cell4
    have hb50 := Below.refl U4.heap.size U4
    have hw50 := B4_.out
    have cc := cg U4 hw50 (R4_u.out.trans (hb50.mono R4_u.out.size))
    go_wp2_with fail
    refine cc.mono ?_
    rintro e V51 ⟨v51, rfl, hm51, hn51⟩
    have hb51 := hb50.trans (hn51.mono hb50.size)
    have hw51 := hw50.trans (hn51.mono hw50.size)
    subst hm51
    clear cc hb50 hw50 hn51
    clear k0_0 k0_1 k1_0 k1_1 k1_2 k1_3 k1_4
    have k0_0 := (F4_u.out.below hb51 F4_u.out.lt).cell0
    have k0_1 := (F4_u.out.below hb51 F4_u.out.lt).cell1
    have k1_0 := (F4_l.out.below hb51 F4_l.out.lt).cell0
    have k1_1 := (F4_l.out.below hb51 F4_l.out.lt).cell1
    have k1_2 := (F4_l.out.below hb51 F4_l.out.lt).cell2
    have k1_3 := (F4_l.out.below hb51 F4_l.out.lt).cell3
    have k1_4 := (F4_l.out.below hb51 F4_l.out.lt).cell4
    go_upto_region 7 with fail
    clear k0_0 k0_1 k1_0 k1_1 k1_2 k1_3 k1_4
    have F6_l := Lib.hid (F4_l.out.below hb51 F4_l.out.lt)
    have F6_u := Lib.hid (F4_u.out.below hb51 F4_u.out.lt)
    have F6_t := Lib.hid (F4_t.out.below hb51 F4_t.out.lt)
    have R6_u := Lib.hid (R4_u.out.trans (hb51.mono R4_u.out.size))
    have B6_ := Lib.hid hw51
    clear hb51 hw51 F4_l F4_u F4_t B4_ R4_u
    have k0_0 := F6_t.out.cell0
    have k0_1 := F6_t.out.cell1
    have hb70 := Below.refl V51.heap.size V51
    have hw70 := B6_.out
    have cc := cv V51 hw70
    go_wp2_with fail
    refine cc.mono ?_
    rintro e V71 ⟨v71, rfl, hm71, hn71⟩
    have hb71 := hb70.trans (hn71.mono hb70.size)
    have hw71 := hw70.trans (hn71.mono hw70.size)
    subst hm71
    clear cc hb70 hw70 hn71
    clear k0_0 k0_1
    have k0_0 := (F6_t.out.below hb71 F6_t.out.lt).cell0
    have k0_1 := (F6_t.out.below hb71 F6_t.out.lt).cell1
    go_upto_region 9 with fail
    clear k0_0 k0_1
    have F8_l := Lib.hid (F6_l.out.below hb71 F6_l.out.lt)
    have F8_u := Lib.hid (F6_u.out.below hb71 F6_u.out.lt)
    have F8_t := Lib.hid (F6_t.out.below hb71 F6_t.out.lt)
    have R8_u := Lib.hid (R6_u.out.trans (hb71.mono R6_u.out.size))
    have B8_ := Lib.hid hw71
    clear hb71 hw71 F6_l F6_u F6_t B6_ R6_u
    clear cv d1
    have q0_0 := F8_t.out.cell0
    have q0_1 := F8_t.out.cell1
    have q1_0 := F8_l.out.cell0
    have q1_1 := F8_l.out.cell1
    have q1_2 := F8_l.out.cell2
    have q1_3 := F8_l.out.cell3
    have q1_4 := F8_l.out.cell4
    have cc := cex V71 B8_.out
    go_wp2_with fail
    refine cc.mono ?_
    rintro e VX ⟨hnx, rfl⟩
    have hwx := B8_.out.trans (hnx.mono B8_.out.size)
    clear cc cex
    clear q0_0 q0_1 q1_0 q1_1 q1_2 q1_3 q1_4
    have F9_l := Lib.hid (F8_l.out.below hnx F8_l.out.lt)
    have F9_u := Lib.hid (F8_u.out.below hnx F8_u.out.lt)
    have F9_t := Lib.hid (F8_t.out.below hnx F8_t.out.lt)
    have R9_u := Lib.hid (R8_u.out.trans (hnx.mono R8_u.out.size))
    have B9_ := Lib.hid hwx
    clear hnx hwx F8_l F8_u F8_t B8_ R8_u
    have hb0_ := Below.refl VX.heap.size VX
    have hw0_ := B9_.out
    obtain ⟨N10, hNB⟩ : ∃ N10, N10 = VX.heap.size := ⟨_, rfl⟩
    obtain ⟨U10, hU⟩ : ∃ U10, U10 = VX.alloc (.cells #[.slice none 0 0, .slice none 0 0] 24) := ⟨_, rfl⟩
    have HU := Lib.hid (show U10 = _ ∧ N10 = _ from ⟨hU, hNB⟩)
    clear hU hNB
    go_upto_region 10 with fail
    rw [← HU.out.2, ← HU.out.1]
    have hbU := hb0_.alloc hb0_.size (.cells #[.slice none 0 0, .slice none 0 0] 24)
    have hwU := hw0_.alloc hw0_.size (.cells #[.slice none 0 0, .slice none 0 0] 24)
    rw [← HU.out.1] at hbU hwU
    have F10_l := Lib.hid (F9_l.out.below hbU F9_l.out.lt)
    have F10_u := Lib.hid (F9_u.out.below hbU F9_u.out.lt)
    have F10_t := Lib.hid (F9_t.out.below hbU F9_t.out.lt)
    have F10_U := Lib.hid (show Two U10 N10 (.slice none 0 0) (.slice none 0 0) 24 by rw [HU.out.1, HU.out.2]; exact Two.newAt _ _ _ _ _ rfl)
    have R10_u := Lib.hid (R9_u.out.trans (hbU.mono R9_u.out.size))
    have B10_ := Lib.hid hwU
    clear HU hbU hwU hb0_ hw0_ F9_l F9_u F9_t B9_ R9_u
    go_upto_region 11 with fail
    have k0_0 := F10_U.out.cell0
    have k0_1 := F10_U.out.cell1
    have k1_0 := F10_u.out.cell0
    have k1_1 := F10_u.out.cell1
    have k2_0 := F10_l.out.cell0
    have k2_1 := F10_l.out.cell1
    have k2_2 := F10_l.out.cell2
    have k2_3 := F10_l.out.cell3
    have k2_4 := F10_l.out.cell4
    have hb110 := Below.refl U10.heap.size U10
    have hw110 := B10_.out
    have cc := cnn U10 hw110
    go_wp2_with fail
    refine cc.mono ?_
    rintro e V111 ⟨v111, rfl, hm111, hn111⟩
    have hb111 := hb110.trans (hn111.mono hb110.size)
    have hw111 := hw110.trans (hn111.mono hw110.size)
    subst hm111
    clear cc hb110 hw110 hn111
    clear k0_0 k0_1 k1_0 k1_1 k2_0 k2_1 k2_2 k2_3 k2_4
    have k0_0 := (F10_U.out.below hb111 F10_U.out.lt).cell0
    have k0_1 := (F10_U.out.below hb111 F10_U.out.lt).cell1
    have k1_0 := (F10_u.out.below hb111 F10_u.out.lt).cell0
    have k1_1 := (F10_u.out.below hb111 F10_u.out.lt).cell1
    have k2_0 := (F10_l.out.below hb111 F10_l.out.lt).cell0
    have k2_1 := (F10_l.out.below hb111 F10_l.out.lt).cell1
    have k2_2 := (F10_l.out.below hb111 F10_l.out.lt).cell2
    have k2_3 := (F10_l.out.below hb111 F10_l.out.lt).cell3
    have k2_4 := (F10_l.out.below hb111 F10_l.out.lt).cell4
    have cc := cg V111 hw111 (R10_u.out.trans (hb111.mono R10_u.out.size))
    go_wp2_with fail
    refine cc.mono ?_
    rintro e V112 ⟨v112, rfl, hm112, hn112⟩
    have hb112 := hb111.trans (hn112.mono hb111.size)
    have hw112 := hw111.trans (hn112.mono hw111.size)
    subst hm112
    clear cc hb111 hw111 hn112
    clear k0_0 k0_1 k1_0 k1_1 k2_0 k2_1 k2_2 k2_3 k2_4
    have k0_0 := (F10_U.out.below hb112 F10_U.out.lt).cell0
    have k0_1 := (F10_U.out.below hb112 F10_U.out.lt).cell1
    have k1_0 := (F10_u.out.below hb112 F10_u.out.lt).cell0
    have k1_1 := (F10_u.out.below hb112 F10_u.out.lt).cell1
    have k2_0 := (F10_l.out.below hb112 F10_l.out.lt).cell0
    have k2_1 := (F10_l.out.below hb112 F10_l.out.lt).cell1
    have k2_2 := (F10_l.out.below hb112 F10_l.out.lt).cell2
    have k2_3 := (F10_l.out.below hb112 F10_l.out.lt).cell3
    have k2_4 := (F10_l.out.below hb112 F10_l.out.lt).cell4
    have cc := cl V112 hw112
    go_wp2_with fail
    refine cc.mono ?_
    rintro e V113 ⟨v113, rfl, hm113, hn113⟩
    have hb113 := hb112.trans (hn113.mono hb112.size)
    have hw113 := hw112.trans (hn113.mono hw112.size)
    subst hm113
    clear cc hb112 hw112 hn113
    clear k0_0 k0_1 k1_0 k1_1 k2_0 k2_1 k2_2 k2_3 k2_4
    have k0_0 := (F10_U.out.below hb113 F10_U.out.lt).cell0
    have k0_1 := (F10_U.out.below hb113 F10_U.out.lt).cell1
    have k1_0 := (F10_u.out.below hb113 F10_u.out.lt).cell0
    have k1_1 := (F10_u.out.below hb113 F10_u.out.lt).cell1
    have k2_0 := (F10_l.out.below hb113 F10_l.out.lt).cell0
    have k2_1 := (F10_l.out.below hb113 F10_l.out.lt).cell1
    have k2_2 := (F10_l.out.below hb113 F10_l.out.lt).cell2
    have k2_3 := (F10_l.out.below hb113 F10_l.out.lt).cell3
    have k2_4 := (F10_l.out.below hb113 F10_l.out.lt).cell4
    have HE := Lib.hid hw113
    clear hb113 hw113
    go_wp2
    go_ret
    exact ⟨rfl, HE.out⟩

set_option maxRecDepth 100000 in
set_option maxHeartbeats 6400000 in
theorem best_some (A : Option Addr) (n c : Nat) (B : Option Addr) (m d : Nat) (xs ys : List Int) (wl wh pl ph st a b : Int) (w : World) (hA : Ints .i64 w A xs) (hB : Ints .i64 w B ys) (hxl : xs.length = n) (hyl : ys.length = m) (hnc : n ≤ c) (hmd : m ≤ d) (hA0 : A = none → c = 0) (hB0 : B = none → d = 0) (hc9 : c ≤ 9223372036854775807) (hd9 : d ≤ 9223372036854775807) (hl : LimOk wl wh pl ph st) (hf : ¬ FitsOk (xs.take 8) (ys.take 8) wl (narW wl wh 11) pl (narW pl ph 5) st) (hz : FOk (a, b)) (hpos : 0 < a) (t : Tr) (hex : exactM a b wl (narW wl wh 11) pl (narW pl ph 5) st = some t) :
    Calls Tryz.prog 3 #[.agg #[.slice A n c, .slice B m d], .agg #[.int .i64 wl, .int .i64 wh, .int .i64 pl, .int .i64 ph, .int .i64 st], .agg #[.int .i64 a, .int .i64 b]] w (RetV (.bool true) w) := by
  have hk8 : (xs.take 8).length ≤ 8 := by simp; omega
  have hl8 : (ys.take 8).length ≤ 8 := by simp; omega
  have cfw0 : ∀ W (_ : Below w.heap.size w W), Calls Tryz.prog 12 #[.agg #[.slice A n c, .slice B m d]] W (RetFewT xs ys W) := fun W hb => few_typ A n c B m d xs ys W (hA.below hb) (hB.below hb) hxl hyl hnc hmd hA0 hB0 hc9 hd9
  clear hA hB hxl hyl hnc hmd hA0 hB0 hc9 hd9
  unfold RetFewT at cfw0
  obtain ⟨us, hus⟩ : ∃ us, us = xs.take 8 := ⟨_, rfl⟩
  obtain ⟨vs, hvs⟩ : ∃ vs, vs = ys.take 8 := ⟨_, rfl⟩
  rw [← hus] at hk8 cfw0 hf
  rw [← hvs] at hl8 cfw0 hf
  clear hus hvs
  obtain ⟨k, hk⟩ : ∃ k, us.length = k := ⟨_, rfl⟩
  obtain ⟨l, hll⟩ : ∃ l, vs.length = l := ⟨_, rfl⟩
  have cfw : ∀ W (_ : Below w.heap.size w W), Calls Tryz.prog 12 #[.agg #[.slice A n c, .slice B m d]] W (fun e w' => ∃ A' c' B' d', e = .returned (.agg #[.slice (some A') k c', .slice (some B') l d']) ∧ IntsT w' (some A') us ∧ IntsT w' (some B') vs ∧ Below W.heap.size W w') := fun W hb => (cfw0 W hb).mono fun e w' ⟨A', c', B', d', h1, _, _, _, _, h2, h3, h4⟩ => ⟨A', c', B', d', by rw [h1, hk, hll], h2, h3, h4⟩
  clear cfw0
  have cl := lives_y (w := w)
  obtain ⟨w2, hw2⟩ : ∃ w2, narW wl wh 11 = w2 := ⟨_, rfl⟩
  obtain ⟨p2, hp2⟩ : ∃ p2, narW pl ph 5 = p2 := ⟨_, rfl⟩
  have hl2 := narW_lim hl (most := 11) (half := 5) (by omega) (by omega)
  rw [hw2, hp2] at hl2 hf hex
  have cn : ∀ W (_ : Below w.heap.size w W), Calls Tryz.prog 11 #[.agg #[.int .i64 wl, .int .i64 wh, .int .i64 pl, .int .i64 ph, .int .i64 st], .int .i64 11] W (RetW (.agg #[.int .i64 wl, .int .i64 w2, .int .i64 pl, .int .i64 p2, .int .i64 st]) W) := fun W _ => (narrow_ok wl wh pl ph st 11 5 w2 p2 W hl (by omega) (by omega) rfl hw2 hp2).mono fun e w' h => RetW.of h
  have clim : ∀ W (_ : Below w.heap.size w W), Calls Tryz.prog 13 #[.agg #[.int .i64 wl, .int .i64 w2, .int .i64 pl, .int .i64 p2, .int .i64 st]] W (RetW (.bool true) W) := fun W _ => by
    have := rlimits_any wl w2 pl p2 st W
    rw [decide_eq_true hl2] at this
    exact this.mono fun e w' h => RetW.of h
  clear hw2 hp2
  obtain ⟨eu, ev⟩ := t
  have hfok := hz
  have cv := valid_y a b true (decide_eq_true hfok) (w := w)
  have d1 : decide (a ≤ 0) = false := decide_eq_false (by omega)
  have hbest := exactM_best hfok hpos hl2
  rw [hex] at hbest
  obtain ⟨⟨hef, heh⟩, _⟩ := hbest
  have heh : prodL eu * b = prodL ev * a := heh
  have hef : FitsOk eu ev wl w2 pl p2 st := hef
  obtain ⟨by1, by2, by3, by4, by5⟩ := fits_bd hl2 hef
  obtain ⟨e1, he1⟩ : ∃ e1, eu.length = e1 := ⟨_, rfl⟩
  have he2 : ev.length = e1 := by omega
  have cex : ∀ W (_ : Below w.heap.size w W), Calls Tryz.prog 19 #[.agg #[.int .i64 a, .int .i64 b], .agg #[.int .i64 wl, .int .i64 w2, .int .i64 pl, .int .i64 p2, .int .i64 st]] W (fun e w' => ∃ g1 h1 g2 h2, e = .returned (.tuple #[(.agg #[.slice (some ⟨g1, 0, none⟩) e1 h1, .slice (some ⟨g2, 0, none⟩) e1 h2]), .int .i64 0]) ∧ Ints .i64 w' (some ⟨g1, 0, none⟩) eu ∧ Ints .i64 w' (some ⟨g2, 0, none⟩) ev ∧ Below W.heap.size W w') := fun W _ => by
    have := exact_any a b wl w2 pl p2 st W hfok hl2 hpos
    rw [hex] at this
    refine this.mono fun e w' ⟨hn, g1, h1, g2, h2, n1, n2, hv, o1, o2⟩ => ?_
    obtain rfl : n1 = e1 := by rw [← he1]; exact o1.len.symm
    obtain rfl : n2 = n1 := by rw [← he2]; exact o2.len.symm
    exact ⟨g1, h1, g2, h2, hv, o1.ints, o2.ints, hn⟩
  have hpe := prodL_six by1 (by omega)
  have hpf := prodL_six by2 (by omega)
  obtain ⟨y1, y2, y3, y4, y5⟩ := lowP_out (p := prodL eu) (q := prodL ev) (by omega)
  have hyl : lowP (prodL eu) (prodL ev) = (a, b) := by
    rw [lowP_eq (r := a) (s := b) (by omega) (by have := hfok.1; simp only at this; omega) (by rw [heh, Int.mul_comm])]
    exact lowP_self hfok.1 hfok.2.2.2
  have coq := of_w' hfok (w := w)
  have ccq : ∀ W (_ : Below w.heap.size w W) u v, IsRQ W u a b (5 + 12 * e1 + 1) → IsRQ W v a b 5 → Calls Tryz.prog 21 #[u, v] W (RetW (.int .i64 0) W) := fun W _ u v g1 g2 => by
    have := rcmpq_any g1 g2 (by omega) (by omega)
    rw [show a * b - a * b = 0 by omega] at this
    exact this.mono fun e w' h => RetW.of h
  obtain ⟨W3, hW3⟩ : ∃ W3, W3 = ((w.alloc (.cells #[.slice A n c, .slice B m d] 24)).alloc (.cells #[.int .i64 wl, .int .i64 wh, .int .i64 pl, .int .i64 ph, .int .i64 st] 26)).alloc (.cells #[.int .i64 a, .int .i64 b] 28) := ⟨_, rfl⟩
  have s1 : (w.alloc (.cells #[.slice A n c, .slice B m d] 24)).heap.size = w.heap.size + 1 := by simp
  have s2 : ((w.alloc (.cells #[.slice A n c, .slice B m d] 24)).alloc (.cells #[.int .i64 wl, .int .i64 wh, .int .i64 pl, .int .i64 ph, .int .i64 st] 26)).heap.size = w.heap.size + 1 + 1 := by simp
  have hB3 : Below w.heap.size w W3 := by rw [hW3]; exact (((Below.refl _ _).alloc (Nat.le_refl _) _).alloc (by simp) _).alloc (by simp; omega) _
  have HBW := Lib.hid hB3
  have HF := Lib.hid (show Two W3 w.heap.size (.slice A n c) (.slice B m d) 24 by rw [hW3]; exact ((Two.newAt _ _ _ _ _ rfl).alloc _).alloc _)
  have HL := Lib.hid (show Five W3 (w.heap.size + 1) (.int .i64 wl) (.int .i64 wh) (.int .i64 pl) (.int .i64 ph) (.int .i64 st) 26 by
    rw [hW3]
    exact (Five.newAt _ _ _ _ _ _ _ (w.heap.size + 1) s1.symm).below ((Below.refl (w.heap.size + 1 + 1) _).alloc (by rw [s2]; exact Nat.le_refl _) _) (by omega))
  have HZ := Lib.hid (show Two W3 (w.heap.size + 1 + 1) (.int .i64 a) (.int .i64 b) 28 by rw [hW3]; exact Two.newAt _ _ _ _ _ s2.symm)
  clear hB3 s1 s2
  have HK8 := Lib.hid hk8
  have HL8 := Lib.hid hl8
  have HFI := Lib.hid hf
  have HLL := Lib.hid (And.intro hk hll)
  have HEF := Lib.hid hef
  have HBY := Lib.hid (And.intro by1 (And.intro by2 (And.intro he1 (And.intro he2 by5))))
  have HYL := Lib.hid hyl
  clear hk8 hl8 hf hef hyl
  clear hk hll by1 by2 by3 by4 by5 he1 he2 heh hpe hpf y1 y2 y3 y4 y5 hfok hz hpos hex hl hl2
  go_enter Tryz.func3, Tryz.ntmps3
  go_upto_region 1 with fail
  rw [← hW3]
  clear hW3
  refine Lex.wp_region_mix (fun w' => Two w' w.heap.size (.slice A n c) (.slice B m d) 24 ∧ Five w' (w.heap.size + 1) (.int .i64 wl) (.int .i64 wh) (.int .i64 pl) (.int .i64 ph) (.int .i64 st) 26 ∧ Two w' (w.heap.size + 1 + 1) (.int .i64 a) (.int .i64 b) 28)
    [(0, 12), (1, 13), (2, 14), (3, 15), (4, 7), (5, 8)] (fun j => j == 0 || j == 2) (fun j => j == 4 || j == 5) [(6, false), (7, false)]
    (fun i v w' => match i with | 0 => v = .agg #[.int .i64 wl, .int .i64 wh, .int .i64 pl, .int .i64 ph, .int .i64 st] | 1 => v = .agg #[.int .i64 wl, .int .i64 w2, .int .i64 pl, .int .i64 p2, .int .i64 st] | 2 => v = .agg #[.slice A n c, .slice B m d] | 3 => ∃ A' c' B' d', v = (.agg #[.slice (some A') k c', .slice (some B') l d']) ∧ IntsT w' (some A') us ∧ IntsT w' (some B') vs | 4 => ∃ B, v = .pointer (some ⟨B, 0, none⟩) ∧ W3.heap.size ≤ B ∧ Five w' B (.int .i64 0) (.int .i64 0) (.int .i64 0) (.int .i64 0) (.int .i64 0) 26 | 5 => ∃ B, v = .pointer (some ⟨B, 0, none⟩) ∧ W3.heap.size ≤ B ∧ Two w' B (.slice none 0 0) (.slice none 0 0) 24 | _ => False)
    (by kernel_rfl) (by kernel_rfl) (by kernel_rfl) ⟨HF.out, HL.out, HZ.out⟩ (fun w1 w2 hS hb => ⟨hS.1.below hb hS.1.lt, hS.2.1.below hb hS.2.1.lt, hS.2.2.below hb hS.2.2.lt⟩) ?_ ?_ ?_
  · refine Lex.all_cons ?_ (Lex.all_cons ?_ (Lex.all_cons ?_ (Lex.all_cons ?_ (Lex.all_cons ?_ (Lex.all_cons ?_ (Lex.all_nil))))))
    · exact fun v w1 w2 h _ => h
    · exact fun v w1 w2 h _ => h
    · exact fun v w1 w2 h _ => h
    · exact fun v w1 w2 ⟨A', c', B', d', hv, h1, h2⟩ hb => ⟨A', c', B', d', hv, h1.below hb, h2.below hb⟩
    · exact fun v w1 w2 ⟨B, hv, hl, hT⟩ hb => ⟨B, hv, hl, hT.below hb hT.lt⟩
    · exact fun v w1 w2 ⟨B, hv, hl, hT⟩ hb => ⟨B, hv, hl, hT.below hb hT.lt⟩
  · refine Lex.all_cons ?_ (Lex.all_cons ?_ (Lex.all_cons ?_ (Lex.all_cons ?_ (Lex.all_cons ?_ (Lex.all_cons ?_ (Lex.all_nil))))))
    · refine Lex.ob_eager rfl rfl (fun σ w1 hS hB hg => ⟨.agg #[.int .i64 wl, .int .i64 wh, .int .i64 pl, .int .i64 ph, .int .i64 st], rfl, fun w2 hS => ?_, rfl⟩)
      clear hg
      simp only [Lex.full, Act.put, List.setIfInBounds_toArray, List.set_cons_zero, List.set_cons_succ]
      have f1_0 := hS.2.1.cell0
      have f1_1 := hS.2.1.cell1
      have f1_2 := hS.2.1.cell2
      have f1_3 := hS.2.1.cell3
      have f1_4 := hS.2.1.cell4
      clear hS
      go_simp
      all_goals with_reducible rfl
    · refine Lex.ob_step rfl rfl rfl (fun σ w1 hS hB hg K hK => ?_)
      have HK := Lib.hid hK
      clear hK
      have g0 : (σ 0) = .agg #[.int .i64 wl, .int .i64 wh, .int .i64 pl, .int .i64 ph, .int .i64 st] := hg (0, 12) (by simp) (by kernel_rfl)
      clear hg
      simp only [Lex.full, Act.put, List.setIfInBounds_toArray, List.set_cons_zero, List.set_cons_succ]
      simp only [g0]
      have hw1 : Below w.heap.size w w1 := HBW.out.drew.trans (hB.mono HBW.out.size)
      have cc := cn w1 hw1
      go_wp2_with fail
      refine cc.mono ?_
      rintro e w2 ⟨v1, rfl, rfl, hn⟩
      clear cc
      go_wp2_with fail
      exact HK.out _ _ ⟨rfl, hn, rfl, fun h => nomatch h⟩
    · refine Lex.ob_eager rfl rfl (fun σ w1 hS hB hg => ⟨.agg #[.slice A n c, .slice B m d], rfl, fun w2 hS => ?_, rfl⟩)
      clear hg
      simp only [Lex.full, Act.put, List.setIfInBounds_toArray, List.set_cons_zero, List.set_cons_succ]
      have f0_0 := hS.1.cell0
      have f0_1 := hS.1.cell1
      clear hS
      go_simp
      all_goals with_reducible rfl
    · refine Lex.ob_step rfl rfl rfl (fun σ w1 hS hB hg K hK => ?_)
      have HK := Lib.hid hK
      clear hK
      have g2 : (σ 2) = .agg #[.slice A n c, .slice B m d] := hg (2, 14) (by simp) (by kernel_rfl)
      clear hg
      simp only [Lex.full, Act.put, List.setIfInBounds_toArray, List.set_cons_zero, List.set_cons_succ]
      simp only [g2]
      have hw1 : Below w.heap.size w w1 := HBW.out.drew.trans (hB.mono HBW.out.size)
      have cc := cfw w1 hw1
      go_wp2_with fail
      refine cc.mono ?_
      rintro e w2 ⟨A', c', B', d', rfl, hI1, hI2, hn⟩
      clear cc
      go_wp2_with fail
      exact HK.out _ _ ⟨rfl, hn, ⟨A', c', B', d', rfl, hI1, hI2⟩, fun h => nomatch h⟩
    · refine Lex.ob_step rfl rfl rfl (fun σ w1 hS hB hg K hK => ?_)
      have HK := Lib.hid hK
      clear hK
      clear hg
      simp only [Lex.full, Act.put, List.setIfInBounds_toArray, List.set_cons_zero, List.set_cons_succ]
      go_wp2_with fail
      refine HK.out _ _ ⟨rfl, (Below.refl _ _).alloc (Nat.le_refl _) _, ⟨w1.heap.size, rfl, show W3.heap.size ≤ _ from hB.size, Five.newAt _ _ _ _ _ _ _ _ rfl⟩, fun _ => ?_⟩
      refine Lex.all_cons ?_ (Lex.all_cons ?_ (Lex.all_cons ?_ (Lex.all_cons ?_ (Lex.all_cons ?_ (Lex.all_cons ?_ (Lex.all_nil))))))
      · intro u h; cases h
      · intro u h; cases h
      · intro u h; cases h
      · intro u h; cases h
      · rintro u _ ⟨B, rfl, _, hT⟩ he; have := hT.lt; have he : Value.pointer (some ⟨B, 0, none⟩) = .pointer (some ⟨w1.heap.size, 0, none⟩) := he; injection he with he; injection he with he; injection he with he; omega
      · rintro u _ ⟨B, rfl, _, hT⟩ he; have := hT.lt; have he : Value.pointer (some ⟨B, 0, none⟩) = .pointer (some ⟨w1.heap.size, 0, none⟩) := he; injection he with he; injection he with he; injection he with he; omega
    · refine Lex.ob_step rfl rfl rfl (fun σ w1 hS hB hg K hK => ?_)
      have HK := Lib.hid hK
      clear hK
      clear hg
      simp only [Lex.full, Act.put, List.setIfInBounds_toArray, List.set_cons_zero, List.set_cons_succ]
      go_wp2_with fail
      refine HK.out _ _ ⟨rfl, (Below.refl _ _).alloc (Nat.le_refl _) _, ⟨w1.heap.size, rfl, show W3.heap.size ≤ _ from hB.size, Two.newAt _ _ _ _ _ rfl⟩, fun _ => ?_⟩
      refine Lex.all_cons ?_ (Lex.all_cons ?_ (Lex.all_cons ?_ (Lex.all_cons ?_ (Lex.all_cons ?_ (Lex.all_cons ?_ (Lex.all_nil))))))
      · intro u h; cases h
      · intro u h; cases h
      · intro u h; cases h
      · intro u h; cases h
      · rintro u _ ⟨B, rfl, _, hT⟩ he; have := hT.lt; have he : Value.pointer (some ⟨B, 0, none⟩) = .pointer (some ⟨w1.heap.size, 0, none⟩) := he; injection he with he; injection he with he; injection he with he; omega
      · rintro u _ ⟨B, rfl, _, hT⟩ he; have := hT.lt; have he : Value.pointer (some ⟨B, 0, none⟩) = .pointer (some ⟨w1.heap.size, 0, none⟩) := he; injection he with he; injection he with he; injection he with he; omega
  · intro σ V1_ hS hB hg hd
    have e0 : (σ 0) = .agg #[.int .i64 wl, .int .i64 wh, .int .i64 pl, .int .i64 ph, .int .i64 st] := hg (0, 12) (by simp)
    have e1 : (σ 1) = .agg #[.int .i64 wl, .int .i64 w2, .int .i64 pl, .int .i64 p2, .int .i64 st] := hg (1, 13) (by simp)
    have e2 : (σ 2) = .agg #[.slice A n c, .slice B m d] := hg (2, 14) (by simp)
    have e3 : ∃ A' c' B' d', (σ 3) = (.agg #[.slice (some A') k c', .slice (some B') l d']) ∧ IntsT V1_ (some A') us ∧ IntsT V1_ (some B') vs := hg (3, 15) (by simp)
    have e4 : ∃ B, (σ 4) = .pointer (some ⟨B, 0, none⟩) ∧ W3.heap.size ≤ B ∧ Five V1_ B (.int .i64 0) (.int .i64 0) (.int .i64 0) (.int .i64 0) (.int .i64 0) 26 := hg (4, 7) (by simp)
    have e5 : ∃ B, (σ 5) = .pointer (some ⟨B, 0, none⟩) ∧ W3.heap.size ≤ B ∧ Two V1_ B (.slice none 0 0) (.slice none 0 0) 24 := hg (5, 8) (by simp)
    have n1_4_5 : σ 4 ≠ σ 5 := hd (4, 7) (by simp) (5, 8) (by simp) (by decide) rfl rfl
    clear hg hd
    simp only [Lex.full, Act.put, List.setIfInBounds_toArray, List.set_cons_zero, List.set_cons_succ]
    generalize σ 0 = s1_0 at *
    generalize σ 1 = s1_1 at *
    generalize σ 2 = s1_2 at *
    generalize σ 3 = s1_3 at *
    generalize σ 4 = s1_4 at *
    generalize σ 5 = s1_5 at *
    clear σ
    subst e0
    subst e1
    subst e2
    obtain ⟨A', c', B', d', rfl, hI1, hI2⟩ := e3
    obtain ⟨B1_4, rfl, l1_4, T4⟩ := e4
    have HT1_4 := Lib.hid T4
    clear T4
    obtain ⟨B1_5, rfl, l1_5, T5⟩ := e5
    have HT1_5 := Lib.hid T5
    clear T5
    replace n1_4_5 : B1_4 ≠ B1_5 := fun e => n1_4_5 (by rw [e])
    have HBm := Lib.hid (show Below w.heap.size w V1_ from HBW.out.drew.trans (hB.mono HBW.out.size))
    have HBb := Lib.hid (show Below W3.heap.size W3 V1_ from ⟨hB.os, hB.tape, hB.output, hB.size, hB.block⟩)
    have HSm := Lib.hid hS
    clear hB hS
    have l1_x := HF.out.lt
    have G1_x := Lib.hid HSm.out.1
    have l1_y := HL.out.lt
    have G1_y := Lib.hid HSm.out.2.1
    have l1_z := HZ.out.lt
    have G1_z := Lib.hid HSm.out.2.2
    have lw1 := HBW.out.size
    clear HSm HBb HF HL HZ HBW
    have Y1_i1 := Lib.hid hI1
    clear hI1
    have Y1_i2 := Lib.hid hI2
    clear hI2
    refine Lex.lex_do rfl ?_
    have r0 := HT1_4.out.cell0
    have g0 := HT1_4.out.free 0
    have r1 := HT1_4.out.cell1
    have g1 := HT1_4.out.free 1
    have r2 := HT1_4.out.cell2
    have g2 := HT1_4.out.free 2
    have r3 := HT1_4.out.cell3
    have g3 := HT1_4.out.free 3
    have r4 := HT1_4.out.cell4
    have g4 := HT1_4.out.free 4
    obtain ⟨V1_s1, hV1⟩ : ∃ V1_s1, V1_s1 = (((((V1_.setCell ⟨B1_4, 0, none⟩ (.int .i64 wl)).setCell ⟨B1_4, 1, none⟩ (.int .i64 w2)).setCell ⟨B1_4, 2, none⟩ (.int .i64 pl)).setCell ⟨B1_4, 3, none⟩ (.int .i64 p2)).setCell ⟨B1_4, 4, none⟩ (.int .i64 st)) := ⟨_, rfl⟩
    have HV1 := Lib.hid hV1
    clear hV1
    go_wp2_with fail
    rw [← HV1.out]
    clear r0 g0 r1 g1 r2 g2 r3 g3 r4 g4
    have G1_xs := Lib.hid (show Two V1_s1 w.heap.size (.slice A n c) (.slice B m d) 24 by rw [HV1.out]; exact (((((G1_x.out.setOther ⟨B1_4, 0, none⟩ _ (by dsimp only; omega)).setOther ⟨B1_4, 1, none⟩ _ (by dsimp only; omega)).setOther ⟨B1_4, 2, none⟩ _ (by dsimp only; omega)).setOther ⟨B1_4, 3, none⟩ _ (by dsimp only; omega)).setOther ⟨B1_4, 4, none⟩ _ (by dsimp only; omega)))
    have G1_ys := Lib.hid (show Five V1_s1 (w.heap.size + 1) (.int .i64 wl) (.int .i64 wh) (.int .i64 pl) (.int .i64 ph) (.int .i64 st) 26 by rw [HV1.out]; exact (((((G1_y.out.setOther ⟨B1_4, 0, none⟩ _ (by dsimp only; omega)).setOther ⟨B1_4, 1, none⟩ _ (by dsimp only; omega)).setOther ⟨B1_4, 2, none⟩ _ (by dsimp only; omega)).setOther ⟨B1_4, 3, none⟩ _ (by dsimp only; omega)).setOther ⟨B1_4, 4, none⟩ _ (by dsimp only; omega)))
    have G1_zs := Lib.hid (show Two V1_s1 (w.heap.size + 1 + 1) (.int .i64 a) (.int .i64 b) 28 by rw [HV1.out]; exact (((((G1_z.out.setOther ⟨B1_4, 0, none⟩ _ (by dsimp only; omega)).setOther ⟨B1_4, 1, none⟩ _ (by dsimp only; omega)).setOther ⟨B1_4, 2, none⟩ _ (by dsimp only; omega)).setOther ⟨B1_4, 3, none⟩ _ (by dsimp only; omega)).setOther ⟨B1_4, 4, none⟩ _ (by dsimp only; omega)))
    replace HT1_5 := Lib.hid (show Two V1_s1 _ _ _ _ by rw [HV1.out]; exact (((((HT1_5.out.setOther ⟨B1_4, 0, none⟩ _ (by dsimp only; omega)).setOther ⟨B1_4, 1, none⟩ _ (by dsimp only; omega)).setOther ⟨B1_4, 2, none⟩ _ (by dsimp only; omega)).setOther ⟨B1_4, 3, none⟩ _ (by dsimp only; omega)).setOther ⟨B1_4, 4, none⟩ _ (by dsimp only; omega)))
    have G1_l := Lib.hid (show Five V1_s1 B1_4 (.int .i64 wl) (.int .i64 w2) (.int .i64 pl) (.int .i64 p2) (.int .i64 st) 26 by rw [HV1.out]; exact (((((HT1_4.out).set0 _).set1 _).set2 _).set3 _).set4 _)
    have Y1_i1s := Lib.hid (show IntsT V1_s1 (some A') us by rw [HV1.out]; exact IntsT.set5 Y1_i1.out HT1_4.out (by decide) _ _ _ _ _)
    clear Y1_i1
    have Y1_i2s := Lib.hid (show IntsT V1_s1 (some B') vs by rw [HV1.out]; exact IntsT.set5 Y1_i2.out HT1_4.out (by decide) _ _ _ _ _)
    clear Y1_i2
    have HB1_1 := Lib.hid (show Below w.heap.size w V1_s1 by rw [HV1.out]; exact (((((HBm.out.setCell (by dsimp only; omega) _).setCell (by dsimp only; omega) _).setCell (by dsimp only; omega) _).setCell (by dsimp only; omega) _).setCell (by dsimp only; omega) _))
    clear HV1 HT1_4 HBm G1_x G1_y G1_z
    refine Lex.lexQ_normal (fun _ => ⟨G1_xs.out, G1_ys.out, G1_zs.out⟩) ?_
    refine Lex.lex_do rfl ?_
    have r0 := HT1_5.out.cell0
    have g0 := HT1_5.out.free 0
    have r1 := HT1_5.out.cell1
    have g1 := HT1_5.out.free 1
    obtain ⟨V1_s2, hV1⟩ : ∃ V1_s2, V1_s2 = ((V1_s1.setCell ⟨B1_5, 0, none⟩ ((.slice (some A') k c'))).setCell ⟨B1_5, 1, none⟩ ((.slice (some B') l d'))) := ⟨_, rfl⟩
    have HV1 := Lib.hid hV1
    clear hV1
    go_wp2_with fail
    rw [← HV1.out]
    clear r0 g0 r1 g1
    have G1_xss := Lib.hid (show Two V1_s2 w.heap.size (.slice A n c) (.slice B m d) 24 by rw [HV1.out]; exact ((G1_xs.out.setOther ⟨B1_5, 0, none⟩ _ (by dsimp only; omega)).setOther ⟨B1_5, 1, none⟩ _ (by dsimp only; omega)))
    have G1_yss := Lib.hid (show Five V1_s2 (w.heap.size + 1) (.int .i64 wl) (.int .i64 wh) (.int .i64 pl) (.int .i64 ph) (.int .i64 st) 26 by rw [HV1.out]; exact ((G1_ys.out.setOther ⟨B1_5, 0, none⟩ _ (by dsimp only; omega)).setOther ⟨B1_5, 1, none⟩ _ (by dsimp only; omega)))
    have G1_zss := Lib.hid (show Two V1_s2 (w.heap.size + 1 + 1) (.int .i64 a) (.int .i64 b) 28 by rw [HV1.out]; exact ((G1_zs.out.setOther ⟨B1_5, 0, none⟩ _ (by dsimp only; omega)).setOther ⟨B1_5, 1, none⟩ _ (by dsimp only; omega)))
    have G1_ls := Lib.hid (show Five V1_s2 B1_4 (.int .i64 wl) (.int .i64 w2) (.int .i64 pl) (.int .i64 p2) (.int .i64 st) 26 by rw [HV1.out]; exact ((G1_l.out.setOther ⟨B1_5, 0, none⟩ _ (by dsimp only; omega)).setOther ⟨B1_5, 1, none⟩ _ (by dsimp only; omega)))
    have G1_u := Lib.hid (show Two V1_s2 B1_5 (.slice (some A') k c') (.slice (some B') l d') 24 by rw [HV1.out]; exact (HT1_5.out.set0 _).set1 _)
    have Y1_i1ss := Lib.hid (show IntsT V1_s2 (some A') us by rw [HV1.out]; exact IntsT.set01 Y1_i1s.out HT1_5.out (by decide) _ _)
    clear Y1_i1s
    have Y1_i2ss := Lib.hid (show IntsT V1_s2 (some B') vs by rw [HV1.out]; exact IntsT.set01 Y1_i2s.out HT1_5.out (by decide) _ _)
    clear Y1_i2s
    have HB1_2 := Lib.hid (show Below w.heap.size w V1_s2 by rw [HV1.out]; exact ((HB1_1.out.setCell (by dsimp only; omega) _).setCell (by dsimp only; omega) _))
    clear HV1 HT1_5 HB1_1 G1_xs G1_ys G1_zs G1_l
    refine Lex.lexQ_normal (fun _ => ⟨G1_xss.out, G1_yss.out, G1_zss.out⟩) ?_
    refine Lex.lex_nil ?_
    clear G1_xss G1_yss
    clear cn cfw
    have cg : ∀ W (_ : Below w.heap.size w W) (_ : Below V1_s2.heap.size V1_s2 W), Calls Tryz.prog 15 #[(.agg #[.slice (some A') k c', .slice (some B') l d']), .agg #[.int .i64 wl, .int .i64 w2, .int .i64 pl, .int .i64 p2, .int .i64 st]] W (RetW (.bool false) W) := fun W _ hb => (rfits_any (some A') k c' (some B') l d' us vs wl w2 pl p2 st (false, ()) W (Y1_i1ss.out.1.below hb) (Y1_i2ss.out.1.below hb) HLL.out.1 HLL.out.2 (by rw [← HLL.out.1]; exact HK8.out) (by rw [← HLL.out.2]; exact HL8.out) (decide_eq_false HFI.out)).mono fun e w' h => RetW.of h
    have HRU := Lib.hid (Below.refl V1_s2.heap.size V1_s2)
    clear Y1_i1ss Y1_i2ss
    clear HK8 HL8 HFI HLL
    have k0_0 := G1_ls.out.cell0
    have k0_1 := G1_ls.out.cell1
    have k0_2 := G1_ls.out.cell2
    have k0_3 := G1_ls.out.cell3
    have k0_4 := G1_ls.out.cell4
    have hb20 := Below.refl V1_s2.heap.size V1_s2
    have hw20 := HB1_2.out
    have cc := clim V1_s2 hw20
    go_wp2_with fail
    refine cc.mono ?_
    rintro e V21 ⟨v21, rfl, hm21, hn21⟩
    have hb21 := hb20.trans (hn21.mono hb20.size)
    have hw21 := hw20.trans (hn21.mono hw20.size)
    subst hm21
    clear cc hb20 hw20 hn21
    clear k0_0 k0_1 k0_2 k0_3 k0_4
    have k0_0 := (G1_ls.out.below hb21 G1_ls.out.lt).cell0
    have k0_1 := (G1_ls.out.below hb21 G1_ls.out.lt).cell1
    have k0_2 := (G1_ls.out.below hb21 G1_ls.out.lt).cell2
    have k0_3 := (G1_ls.out.below hb21 G1_ls.out.lt).cell3
    have k0_4 := (G1_ls.out.below hb21 G1_ls.out.lt).cell4
    clear k0_0 k0_1 k0_2 k0_3 k0_4
    have F3_z := Lib.hid (G1_zss.out.below hb21 G1_zss.out.lt)
    have F3_l := Lib.hid (G1_ls.out.below hb21 G1_ls.out.lt)
    have F3_u := Lib.hid (G1_u.out.below hb21 G1_u.out.lt)
    have R3_u := Lib.hid (HRU.out.trans (hb21.mono HRU.out.size))
    have B3_ := Lib.hid hw21
    clear hb21 hw21 G1_zss G1_ls G1_u HB1_2 HRU
    have HSZ := Lib.hid R3_u.out.size
    clear clim
    have q0_0 := F3_z.out.cell0
    have q0_1 := F3_z.out.cell1
    have hb0_ := Below.refl V21.heap.size V21
    have hw0_ := B3_.out
    obtain ⟨NB_, hNB⟩ : ∃ NB_, NB_ = V21.heap.size := ⟨_, rfl⟩
    obtain ⟨U4, hU⟩ : ∃ U4, U4 = V21.alloc (.cells #[.int .i64 a, .int .i64 b] 28) := ⟨_, rfl⟩
    have HU := Lib.hid (show U4 = _ ∧ NB_ = _ from ⟨hU, hNB⟩)
    clear hU hNB
    go_upto_region 5 with fail
    clear q0_0 q0_1
    rw [← HU.out.2, ← HU.out.1]
    have hbU := hb0_.alloc hb0_.size (.cells #[.int .i64 a, .int .i64 b] 28)
    have hwU := hw0_.alloc hw0_.size (.cells #[.int .i64 a, .int .i64 b] 28)
    rw [← HU.out.1] at hbU hwU
    have F4_z := Lib.hid (F3_z.out.below hbU F3_z.out.lt)
    have F4_l := Lib.hid (F3_l.out.below hbU F3_l.out.lt)
    have F4_u := Lib.hid (F3_u.out.below hbU F3_u.out.lt)
    have O4_z := Lib.hid (show (w.heap.size + 1 + 1) < NB_ by rw [HU.out.2]; exact (F3_z.out.below hb0_ F3_z.out.lt).lt)
    have O4_l := Lib.hid (show B1_4 < NB_ by rw [HU.out.2]; exact (F3_l.out.below hb0_ F3_l.out.lt).lt)
    have O4_u := Lib.hid (show B1_5 < NB_ by rw [HU.out.2]; exact (F3_u.out.below hb0_ F3_u.out.lt).lt)
    have OW4 := Lib.hid (show w.heap.size ≤ NB_ by rw [HU.out.2]; exact hw0_.size)
    have F4_t := Lib.hid (show Two U4 NB_ (.int .i64 a) (.int .i64 b) 28 by rw [HU.out.1, HU.out.2]; exact Two.newAt _ _ _ _ _ rfl)
    have R4_u := Lib.hid (R3_u.out.trans (hbU.mono R3_u.out.size))
    have OV4 := Lib.hid (show Below V21.heap.size V21 U4 by rw [HU.out.1]; exact (Below.refl _ _).alloc (Nat.le_refl _) _)
    have OE4 := Lib.hid (show V21.heap.size ≤ NB_ by rw [HU.out.2]; exact Nat.le_refl _)
    have B4_ := Lib.hid hwU
    clear HU hbU hwU hb0_ hw0_ F3_z F3_l F3_u B3_ R3_u
    have HUV := Lib.hid (show V1_s2.heap.size ≤ NB_ from Nat.le_trans HSZ.out OE4.out)
    clear HSZ OV4 OE4
    clear F4_z
    have k0_0 := F4_u.out.cell0
    have k0_1 := F4_u.out.cell1
    have k1_0 := F4_l.out.cell0
    have k1_1 := F4_l.out.cell1
    have k1_2 := F4_l.out.cell2
    have k1_3 := F4_l.out.cell3
    have k1_4 := F4_l.out.cell4
    have hb50 := Below.refl U4.heap.size U4
    have hw50 := B4_.out
    have cc := cg U4 hw50 (R4_u.out.trans (hb50.mono R4_u.out.size))
    go_wp2_with fail
    refine cc.mono ?_
    rintro e V51 ⟨v51, rfl, hm51, hn51⟩
    have hb51 := hb50.trans (hn51.mono hb50.size)
    have hw51 := hw50.trans (hn51.mono hw50.size)
    subst hm51
    clear cc hb50 hw50 hn51
    clear k0_0 k0_1 k1_0 k1_1 k1_2 k1_3 k1_4
    have k0_0 := (F4_u.out.below hb51 F4_u.out.lt).cell0
    have k0_1 := (F4_u.out.below hb51 F4_u.out.lt).cell1
    have k1_0 := (F4_l.out.below hb51 F4_l.out.lt).cell0
    have k1_1 := (F4_l.out.below hb51 F4_l.out.lt).cell1
    have k1_2 := (F4_l.out.below hb51 F4_l.out.lt).cell2
    have k1_3 := (F4_l.out.below hb51 F4_l.out.lt).cell3
    have k1_4 := (F4_l.out.below hb51 F4_l.out.lt).cell4
    go_upto_region 7 with fail
    clear k0_0 k0_1 k1_0 k1_1 k1_2 k1_3 k1_4
    have F6_l := Lib.hid (F4_l.out.below hb51 F4_l.out.lt)
    have F6_u := Lib.hid (F4_u.out.below hb51 F4_u.out.lt)
    have F6_t := Lib.hid (F4_t.out.below hb51 F4_t.out.lt)
    have R6_u := Lib.hid (R4_u.out.trans (hb51.mono R4_u.out.size))
    have B6_ := Lib.hid hw51
    clear hb51 hw51 F4_l F4_u F4_t B4_ R4_u
    have k0_0 := F6_t.out.cell0
    have k0_1 := F6_t.out.cell1
    have hb70 := Below.refl V51.heap.size V51
    have hw70 := B6_.out
    have cc := cv V51 hw70
    go_wp2_with fail
    refine cc.mono ?_
    rintro e V71 ⟨v71, rfl, hm71, hn71⟩
    have hb71 := hb70.trans (hn71.mono hb70.size)
    have hw71 := hw70.trans (hn71.mono hw70.size)
    subst hm71
    clear cc hb70 hw70 hn71
    clear k0_0 k0_1
    have k0_0 := (F6_t.out.below hb71 F6_t.out.lt).cell0
    have k0_1 := (F6_t.out.below hb71 F6_t.out.lt).cell1
    go_upto_region 9 with fail
    clear k0_0 k0_1
    have F8_l := Lib.hid (F6_l.out.below hb71 F6_l.out.lt)
    have F8_u := Lib.hid (F6_u.out.below hb71 F6_u.out.lt)
    have F8_t := Lib.hid (F6_t.out.below hb71 F6_t.out.lt)
    have R8_u := Lib.hid (R6_u.out.trans (hb71.mono R6_u.out.size))
    have B8_ := Lib.hid hw71
    clear hb71 hw71 F6_l F6_u F6_t B6_ R6_u
    clear cv d1
    have q0_0 := F8_t.out.cell0
    have q0_1 := F8_t.out.cell1
    have q1_0 := F8_l.out.cell0
    have q1_1 := F8_l.out.cell1
    have q1_2 := F8_l.out.cell2
    have q1_3 := F8_l.out.cell3
    have q1_4 := F8_l.out.cell4
    have cc := cex V71 B8_.out
    go_wp2_with fail
    refine cc.mono ?_
    rintro e VX ⟨g1, h1, g2, h2, rfl, hx1, hx2, hnx⟩
    have hwx := B8_.out.trans (hnx.mono B8_.out.size)
    clear cc cex
    have HXI := Lib.hid (And.intro hx1 hx2)
    clear hx1 hx2
    have cfu : ∀ W (_ : Below w.heap.size w W) (_ : Below VX.heap.size VX W), Calls Tryz.prog 15 #[(.agg #[.slice (some ⟨g1, 0, none⟩) e1 h1, .slice (some ⟨g2, 0, none⟩) e1 h2]), .agg #[.int .i64 wl, .int .i64 w2, .int .i64 pl, .int .i64 p2, .int .i64 st]] W (RetW (.bool true) W) := fun W _ hb => (rfits_any (some ⟨g1, 0, none⟩) e1 h1 (some ⟨g2, 0, none⟩) e1 h2 eu ev wl w2 pl p2 st (true, ()) W (HXI.out.1.below hb) (HXI.out.2.below hb) HBY.out.2.2.1 HBY.out.2.2.2.1 (by rw [← HBY.out.2.2.1]; have := HBY.out.2.2.2.2; omega) (by rw [← HBY.out.2.2.1]; have := HBY.out.2.2.2.2; omega) (decide_eq_true HEF.out)).mono fun e w' h => RetW.of h
    have cru : ∀ W (_ : Below w.heap.size w W) (_ : Below VX.heap.size VX W), Calls Tryz.prog 17 #[(.agg #[.slice (some ⟨g1, 0, none⟩) e1 h1, .slice (some ⟨g2, 0, none⟩) e1 h2])] W (RetRQ a b (5 + 12 * e1 + 1) W) := fun W _ hb => by
      have := rratio_list (some ⟨g1, 0, none⟩) e1 h1 (some ⟨g2, 0, none⟩) h2 eu ev W (HXI.out.1.below hb) (HXI.out.2.below hb) HBY.out.2.2.1 HBY.out.2.2.2.1 (by rw [← HBY.out.2.2.1]; have := HBY.out.2.2.2.2; omega) HBY.out.1 HBY.out.2.1
      have e1 : prodL eu / (Int.gcd (prodL eu) (prodL ev) : Nat) = a := congrArg Prod.fst HYL.out
      have e2 : prodL ev / (Int.gcd (prodL eu) (prodL ev) : Nat) = b := congrArg Prod.snd HYL.out
      rw [e1, e2] at this
      exact this
    clear HXI HBY HEF HYL
    clear q0_0 q0_1 q1_0 q1_1 q1_2 q1_3 q1_4
    have F9_l := Lib.hid (F8_l.out.below hnx F8_l.out.lt)
    have F9_u := Lib.hid (F8_u.out.below hnx F8_u.out.lt)
    have F9_t := Lib.hid (F8_t.out.below hnx F8_t.out.lt)
    have R9_u := Lib.hid (R8_u.out.trans (hnx.mono R8_u.out.size))
    have B9_ := Lib.hid hwx
    clear hnx hwx F8_l F8_u F8_t B8_ R8_u
    have HRX := Lib.hid (Below.refl VX.heap.size VX)
    have hb0_ := Below.refl VX.heap.size VX
    have hw0_ := B9_.out
    obtain ⟨N10, hNB⟩ : ∃ N10, N10 = VX.heap.size := ⟨_, rfl⟩
    obtain ⟨U10, hU⟩ : ∃ U10, U10 = VX.alloc (.cells #[.slice (some ⟨g1, 0, none⟩) e1 h1, .slice (some ⟨g2, 0, none⟩) e1 h2] 24) := ⟨_, rfl⟩
    have HU := Lib.hid (show U10 = _ ∧ N10 = _ from ⟨hU, hNB⟩)
    clear hU hNB
    go_upto_region 10 with fail
    rw [← HU.out.2, ← HU.out.1]
    have hbU := hb0_.alloc hb0_.size (.cells #[.slice (some ⟨g1, 0, none⟩) e1 h1, .slice (some ⟨g2, 0, none⟩) e1 h2] 24)
    have hwU := hw0_.alloc hw0_.size (.cells #[.slice (some ⟨g1, 0, none⟩) e1 h1, .slice (some ⟨g2, 0, none⟩) e1 h2] 24)
    rw [← HU.out.1] at hbU hwU
    have F10_l := Lib.hid (F9_l.out.below hbU F9_l.out.lt)
    have F10_u := Lib.hid (F9_u.out.below hbU F9_u.out.lt)
    have F10_t := Lib.hid (F9_t.out.below hbU F9_t.out.lt)
    have F10_U := Lib.hid (show Two U10 N10 (.slice (some ⟨g1, 0, none⟩) e1 h1) (.slice (some ⟨g2, 0, none⟩) e1 h2) 24 by rw [HU.out.1, HU.out.2]; exact Two.newAt _ _ _ _ _ rfl)
    have R10_u := Lib.hid (R9_u.out.trans (hbU.mono R9_u.out.size))
    have R10_x := Lib.hid (HRX.out.trans (hbU.mono HRX.out.size))
    have B10_ := Lib.hid hwU
    clear HU hbU hwU hb0_ hw0_ F9_l F9_u F9_t B9_ R9_u HRX
    go_upto_region 12 with fail
    refine Lex.wp_region_lex (fun w' => Two w' N10 (.slice (some ⟨g1, 0, none⟩) e1 h1) (.slice (some ⟨g2, 0, none⟩) e1 h2) 24 ∧ Five w' B1_4 (.int .i64 wl) (.int .i64 w2) (.int .i64 pl) (.int .i64 p2) (.int .i64 st) 26 ∧ Two w' NB_ (.int .i64 a) (.int .i64 b) 28) (fun _ => true)
      [(0, true), (1, true), (2, false), (3, false), (4, false), (5, true), (7, true), (6, false), (8, false), (9, false), (10, false), (11, false), (12, false), (13, false), (14, false), (15, false)]
      (by kernel_rfl) (by kernel_rfl) (by kernel_rfl) (by kernel_rfl) ⟨F10_U.out, F10_l.out, F10_t.out⟩ ?_
    have hb110 : Below U10.heap.size U10 U10.drew := ⟨rfl, rfl, rfl, Nat.le_refl _, fun _ _ => rfl⟩
    have hw110 : Below w.heap.size w U10.drew := ⟨B10_.out.os, B10_.out.tape, B10_.out.output, B10_.out.size, B10_.out.block⟩
    generalize hV0 : U10.drew = V110 at *
    clear hV0
    refine Lex.lex_take (v := ?_) rfl rfl (by rfl) (fun _ hS => ?_) ?_; rotate_left 1; (focus (have g0_0 := hS.1.cell0; have g0_1 := hS.1.cell1; have g1_0 := hS.2.1.cell0; have g1_1 := hS.2.1.cell1; have g1_2 := hS.2.1.cell2; have g1_3 := hS.2.1.cell3; have g1_4 := hS.2.1.cell4; have g2_0 := hS.2.2.cell0; have g2_1 := hS.2.2.cell1; clear hS; go_simp; with_reducible rfl)); simp only [List.setIfInBounds_toArray, List.set_cons_zero, List.set_cons_succ]
    refine Lex.lex_take (v := ?_) rfl rfl (by rfl) (fun _ hS => ?_) ?_; rotate_left 1; (focus (have g0_0 := hS.1.cell0; have g0_1 := hS.1.cell1; have g1_0 := hS.2.1.cell0; have g1_1 := hS.2.1.cell1; have g1_2 := hS.2.1.cell2; have g1_3 := hS.2.1.cell3; have g1_4 := hS.2.1.cell4; have g2_0 := hS.2.2.cell0; have g2_1 := hS.2.2.cell1; clear hS; go_simp; with_reducible rfl)); simp only [List.setIfInBounds_toArray, List.set_cons_zero, List.set_cons_succ]
    refine Lex.lex_do rfl ?_
    have cc := cfu V110 hw110 (R10_x.out.trans (hb110.mono R10_x.out.size))
    go_wp2_with fail
    refine cc.mono ?_
    rintro e V111 ⟨v111, rfl, hm111, hn111⟩
    have hb111 := hb110.trans (hn111.mono hb110.size)
    have hw111 := hw110.trans (hn111.mono hw110.size)
    subst hm111
    clear cc hb110 hw110 hn111
    go_wp2_with fail
    refine Lex.lexQ_normal (fun _ => ⟨F10_U.out.below hb111 F10_U.out.lt, F10_l.out.below hb111 F10_l.out.lt, F10_t.out.below hb111 F10_t.out.lt⟩) ?_
    refine Lex.lex_do rfl ?_
    go_wp2_with fail
    refine Lex.lexQ_normal (fun _ => ⟨F10_U.out.below hb111 F10_U.out.lt, F10_l.out.below hb111 F10_l.out.lt, F10_t.out.below hb111 F10_t.out.lt⟩) ?_
    refine Lex.lex_do rfl ?_
    go_wp2_with fail
    refine Lex.lexQ_normal (fun _ => ⟨F10_U.out.below hb111 F10_U.out.lt, F10_l.out.below hb111 F10_l.out.lt, F10_t.out.below hb111 F10_t.out.lt⟩) ?_
    refine Lex.lex_take (v := ?_) rfl rfl (by rfl) (fun _ hS => ?_) ?_; rotate_left 1; (focus (have g0_0 := hS.1.cell0; have g0_1 := hS.1.cell1; have g1_0 := hS.2.1.cell0; have g1_1 := hS.2.1.cell1; have g1_2 := hS.2.1.cell2; have g1_3 := hS.2.1.cell3; have g1_4 := hS.2.1.cell4; have g2_0 := hS.2.2.cell0; have g2_1 := hS.2.2.cell1; clear hS; go_simp; with_reducible rfl)); simp only [List.setIfInBounds_toArray, List.set_cons_zero, List.set_cons_succ]
    refine Lex.lex_take (v := ?_) rfl rfl (by rfl) (fun _ hS => ?_) ?_; rotate_left 1; (focus (have g0_0 := hS.1.cell0; have g0_1 := hS.1.cell1; have g1_0 := hS.2.1.cell0; have g1_1 := hS.2.1.cell1; have g1_2 := hS.2.1.cell2; have g1_3 := hS.2.1.cell3; have g1_4 := hS.2.1.cell4; have g2_0 := hS.2.2.cell0; have g2_1 := hS.2.2.cell1; clear hS; go_simp; with_reducible rfl)); simp only [List.setIfInBounds_toArray, List.set_cons_zero, List.set_cons_succ]
    refine Lex.lex_do rfl ?_
    have cc := cru V111 hw111 (R10_x.out.trans (hb111.mono R10_x.out.size))
    go_wp2_with fail
    refine cc.mono ?_
    rintro e V112 ⟨v112, rfl, hm112, hn112⟩
    have hb112 := hb111.trans (hn112.mono hb111.size)
    have hw112 := hw111.trans (hn112.mono hw111.size)
    clear cc hb111 hw111 hn112
    go_wp2_with fail
    refine Lex.lexQ_normal (fun _ => ⟨F10_U.out.below hb112 F10_U.out.lt, F10_l.out.below hb112 F10_l.out.lt, F10_t.out.below hb112 F10_t.out.lt⟩) ?_
    refine Lex.lex_do rfl ?_
    have cc := coq V112 hw112
    go_wp2_with fail
    refine cc.mono ?_
    rintro e V113 ⟨v113, rfl, hm113, hn113⟩
    have hb113 := hb112.trans (hn113.mono hb112.size)
    have hw113 := hw112.trans (hn113.mono hw112.size)
    have hm112 := hm112.below hn113
    clear cc hb112 hw112 hn113
    go_wp2_with fail
    refine Lex.lexQ_normal (fun _ => ⟨F10_U.out.below hb113 F10_U.out.lt, F10_l.out.below hb113 F10_l.out.lt, F10_t.out.below hb113 F10_t.out.lt⟩) ?_
    refine Lex.lex_do rfl ?_
    have cc := ccq V113 hw113 _ _ hm112 hm113
    go_wp2_with fail
    refine cc.mono ?_
    rintro e V114 ⟨v114, rfl, hm114, hn114⟩
    have hb114 := hb113.trans (hn114.mono hb113.size)
    have hw114 := hw113.trans (hn114.mono hw113.size)
    clear hm112 hm113
    subst hm114
    clear cc hb113 hw113 hn114
    go_wp2_with fail
    refine Lex.lexQ_normal (fun _ => ⟨F10_U.out.below hb114 F10_U.out.lt, F10_l.out.below hb114 F10_l.out.lt, F10_t.out.below hb114 F10_t.out.lt⟩) ?_
    refine Lex.lex_do rfl ?_
    go_wp2_with fail
    refine Lex.lexQ_normal (fun _ => ⟨F10_U.out.below hb114 F10_U.out.lt, F10_l.out.below hb114 F10_l.out.lt, F10_t.out.below hb114 F10_t.out.lt⟩) ?_
    refine Lex.lex_do rfl ?_
    go_wp2_with fail
    refine Lex.lexQ_normal (fun _ => ⟨F10_U.out.below hb114 F10_U.out.lt, F10_l.out.below hb114 F10_l.out.lt, F10_t.out.below hb114 F10_t.out.lt⟩) ?_
    refine Lex.lex_do rfl ?_
    go_wp2_with fail
    refine Lex.lexQ_normal (fun _ => ⟨F10_U.out.below hb114 F10_U.out.lt, F10_l.out.below hb114 F10_l.out.lt, F10_t.out.below hb114 F10_t.out.lt⟩) ?_
    refine Lex.lex_do rfl ?_
    have cc := cl V114 hw114
    go_wp2_with fail
    refine cc.mono ?_
    rintro e V115 ⟨v115, rfl, hm115, hn115⟩
    have hb115 := hb114.trans (hn115.mono hb114.size)
    have hw115 := hw114.trans (hn115.mono hw114.size)
    subst hm115
    clear cc hb114 hw114 hn115
    go_wp2_with fail
    refine Lex.lexQ_normal (fun _ => ⟨F10_U.out.below hb115 F10_U.out.lt, F10_l.out.below hb115 F10_l.out.lt, F10_t.out.below hb115 F10_t.out.lt⟩) ?_
    refine Lex.lex_do rfl ?_
    go_wp2_with fail
    refine Lex.lexQ_normal (fun _ => ⟨F10_U.out.below hb115 F10_U.out.lt, F10_l.out.below hb115 F10_l.out.lt, F10_t.out.below hb115 F10_t.out.lt⟩) ?_
    refine Lex.lex_do rfl ?_
    go_wp2_with fail
    refine Lex.lexQ_normal (fun _ => ⟨F10_U.out.below hb115 F10_U.out.lt, F10_l.out.below hb115 F10_l.out.lt, F10_t.out.below hb115 F10_t.out.lt⟩) ?_
    refine Lex.lex_nil ?_
    have F12_l := Lib.hid (F10_l.out.below hb115 F10_l.out.lt)
    have F12_u := Lib.hid (F10_u.out.below hb115 F10_u.out.lt)
    have F12_t := Lib.hid (F10_t.out.below hb115 F10_t.out.lt)
    have F12_U := Lib.hid (F10_U.out.below hb115 F10_U.out.lt)
    have R12_u := Lib.hid (R10_u.out.trans (hb115.mono R10_u.out.size))
    have R12_x := Lib.hid (R10_x.out.trans (hb115.mono R10_x.out.size))
    have B12_ := Lib.hid hw115
    clear hb115 hw115 F10_l F10_u F10_t F10_U B10_ R10_u R10_x
    clear cfu cru coq ccq cl
    go_upto_region 14 with fail
    have k0_0 := F12_u.out.cell0
    have k0_1 := F12_u.out.cell1
    have k1_0 := F12_l.out.cell0
    have k1_1 := F12_l.out.cell1
    have k1_2 := F12_l.out.cell2
    have k1_3 := F12_l.out.cell3
    have k1_4 := F12_l.out.cell4
    have hb130 := Below.refl V115.heap.size V115
    have hw130 := B12_.out
    have cc := cg V115 hw130 (R12_u.out.trans (hb130.mono R12_u.out.size))
    go_wp2_with fail
    refine cc.mono ?_
    rintro e V131 ⟨v131, rfl, hm131, hn131⟩
    have hb131 := hb130.trans (hn131.mono hb130.size)
    have hw131 := hw130.trans (hn131.mono hw130.size)
    subst hm131
    clear cc hb130 hw130 hn131
    clear k0_0 k0_1 k1_0 k1_1 k1_2 k1_3 k1_4
    have k0_0 := (F12_u.out.below hb131 F12_u.out.lt).cell0
    have k0_1 := (F12_u.out.below hb131 F12_u.out.lt).cell1
    have k1_0 := (F12_l.out.below hb131 F12_l.out.lt).cell0
    have k1_1 := (F12_l.out.below hb131 F12_l.out.lt).cell1
    have k1_2 := (F12_l.out.below hb131 F12_l.out.lt).cell2
    have k1_3 := (F12_l.out.below hb131 F12_l.out.lt).cell3
    have k1_4 := (F12_l.out.below hb131 F12_l.out.lt).cell4
    have HE := Lib.hid hw131
    clear hb131 hw131
    go_wp2
    go_ret
    exact ⟨rfl, HE.out⟩

theorem best_all (A : Option Addr) (n c : Nat) (B : Option Addr) (m d : Nat) (xs ys : List Int) (wl wh pl ph st a b : Int) (w : World) (hA : Ints .i64 w A xs) (hB : Ints .i64 w B ys) (hxl : xs.length = n) (hyl : ys.length = m) (hnc : n ≤ c) (hmd : m ≤ d) (hA0 : A = none → c = 0) (hB0 : B = none → d = 0) (hc9 : c ≤ 9223372036854775807) (hd9 : d ≤ 9223372036854775807) :
    Calls Tryz.prog 3 #[.agg #[.slice A n c, .slice B m d], .agg #[.int .i64 wl, .int .i64 wh, .int .i64 pl, .int .i64 ph, .int .i64 st], .agg #[.int .i64 a, .int .i64 b]] w (RetV (.bool true) w) := by
  by_cases hl : LimOk wl wh pl ph st
  · by_cases hf : FitsOk (xs.take 8) (ys.take 8) wl (narW wl wh 11) pl (narW pl ph 5) st
    · exact best_fit A n c B m d xs ys wl wh pl ph st a b w hA hB hxl hyl hnc hmd hA0 hB0 hc9 hd9 hl hf
    · by_cases hz : FOk (a, b)
      · by_cases hp : 0 < a
        · cases hex : exactM a b wl (narW wl wh 11) pl (narW pl ph 5) st with
          | none => exact best_none A n c B m d xs ys wl wh pl ph st a b w hA hB hxl hyl hnc hmd hA0 hB0 hc9 hd9 hl hf hz hp hex
          | some t => exact best_some A n c B m d xs ys wl wh pl ph st a b w hA hB hxl hyl hnc hmd hA0 hB0 hc9 hd9 hl hf hz hp t hex
        · exact best_neg A n c B m d xs ys wl wh pl ph st a b w hA hB hxl hyl hnc hmd hA0 hB0 hc9 hd9 hl hf hz (by omega)
      · exact best_bad A n c B m d xs ys wl wh pl ph st a b w hA hB hxl hyl hnc hmd hA0 hB0 hc9 hd9 hl hf hz
  · exact best_lim A n c B m d xs ys wl wh pl ph st a b w hA hB hxl hyl hnc hmd hA0 hB0 hc9 hd9 hl
theorem best_row (A : Option Addr) (n c : Nat) (B : Option Addr) (m d : Nat) (xs ys : List Int) (wl wh pl ph st a b : Int) (w : World) (hx : Ints .i64 w A xs ∧ xs.length = n ∧ n ≤ c ∧ (A = none → c = 0) ∧ c ≤ 9223372036854775807) (hy : Ints .i64 w B ys ∧ ys.length = m ∧ m ≤ d ∧ (B = none → d = 0) ∧ d ≤ 9223372036854775807) :
    Calls Tryz.prog 3 #[.agg #[.slice A n c, .slice B m d], .agg #[.int .i64 wl, .int .i64 wh, .int .i64 pl, .int .i64 ph, .int .i64 st], .agg #[.int .i64 a, .int .i64 b]] w (RetV (.bool true) w) :=
  best_all A n c B m d xs ys wl wh pl ph st a b w hx.1 hy.1 hx.2.1 hy.2.1 hx.2.2.1 hy.2.2.1 hx.2.2.2.1 hy.2.2.2.1 hx.2.2.2.2 hy.2.2.2.2

end Go.Proofs.YtklngjjokbhfpaaGreat
