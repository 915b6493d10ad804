/- ref.Floor (cut from XGf). -/
import Derived.Test.YtklngjjokbhfpaaGreatDoorCj
import Derived.Test.YtklngjjokbhfpaaGreatDoorLz
namespace Go.Proofs.YtklngjjokbhfpaaGreatDoor
open Go.RowKit

theorem IsR.storedT {w : World} {v : Value} {z : Int} {N R : Nat} {u0 u1 : Value} {t : TypeId} (h : IsR w v z N) (hR : Two w R (.bool false) (.slice none 0 0) t) : IsR ((w.setCell ⟨R, 0, none⟩ u0).setCell ⟨R, 1, none⟩ u1) v z N := h.stored hR
set_option maxRecDepth 100000 in
set_option maxHeartbeats 1600000 in
theorem rfloor_any {p q zn : Int} {bb : Bool × Unit} (w : World) (hp : I64 p) (hq : I64 q) (hq0 : 0 < q) (hsv : smallV (p / q) = .tuple #[.int .i64 zn, .bool bb.1]) :
    Calls Tryz.prog 10 #[.agg #[.int .i64 p, .int .i64 q]] w (RetV (.int .i64 zn) w) := by
  have ci1 : ∀ W (_ : Below w.heap.size w W), Calls Tryz.prog 20 #[.int .i64 p] W (RetR p 5 W) := fun W _ => rint_any p W hp
  have ci2 : ∀ W (_ : Below w.heap.size w W), Calls Tryz.prog 20 #[.int .i64 q] W (RetR q 5 W) := fun W _ => rint_any q W hq
  have cd : ∀ W (_ : Below w.heap.size w W) u v, IsR W u p 5 → IsR W v q 5 → Calls Tryz.prog 24 #[u, v] W (RetDM p q 6 8 W) := fun W _ u v h1 h2 => rdivmod_any h1 h2 (by omega) (by omega) hq0
  have cs : ∀ W (_ : Below w.heap.size w W) v, IsR W v (p / q) 6 → Calls Tryz.prog 25 #[v] W (RetW (.tuple #[.int .i64 zn, .bool bb.1]) W) := fun W _ v h => by
    have := rsmall_any h (by omega)
    rw [hsv] at this
    exact this.mono fun e w' h => RetW.of h
  clear hp hq hq0 hsv
  have cd' : ∀ W (_ : Below w.heap.size w W) u v, IsR W u p 5 → IsR W v q 5 → Calls Tryz.prog 24 #[u, v] W (fun e w' => ∃ v1 v2, e = .returned (.tuple #[v1, v2]) ∧ (IsR w' v1 (p / q) 6 ∧ ∃ (p2 : Bool × Unit) (A2 : Option Addr) (n2 c2 : Nat), v2 = .agg #[.bool p2.1, .slice A2 n2 c2]) ∧ Below W.heap.size W w') := fun W hW u v h1 h2 => (cd W hW u v h1 h2).mono fun e w' ⟨v1, v2, a, b, c, d⟩ => ⟨v1, v2, a, ⟨b, c.agg'⟩, d⟩
  clear cd
  generalize p / q = z at *
  obtain ⟨W3, hW3⟩ : ∃ W3, W3 = (w.alloc (.cells #[.int .i64 p, .int .i64 q] 23)) := ⟨_, rfl⟩
  have hB : Below w.heap.size w W3 := by rw [hW3]; exact ((Below.refl _ _).alloc (Nat.le_refl _) _)
  have HBW := Lib.hid hB
  have HF := Lib.hid (show Two W3 (w.heap.size) (.int .i64 p) (.int .i64 q) 23 by rw [hW3]; exact (Two.newAt _ _ _ _ _ (by simp)))
  clear hB
  go_enter Tryz.func10, Tryz.ntmps10
  go_upto_region 1 with fail
  rw [← hW3]
  clear hW3
  refine Lex.wp_region_mix (fun w' => Two w' w.heap.size (.int .i64 p) (.int .i64 q) 23)
    [(0, 8), (1, 9), (2, 10), (3, 11), (4, 12), (5, 13), (6, 14), (7, 7), (8, 15), (9, 16), (10, 3), (11, 4)] (fun j => j == 0 || j == 1 || j == 3 || j == 4 || j == 9) (fun j => j == 10 || j == 11) [(12, false), (13, false)]
    (fun i v w' => match i with | 0 => v = .pointer (some ⟨w.heap.size, 0, none⟩) | 1 => v = .int .i64 p | 2 => IsR w' v p 5 | 3 => v = .pointer (some ⟨w.heap.size, 1, none⟩) | 4 => v = .int .i64 q | 5 => IsR w' v q 5 | 6 => ∃ v1 v2, v = .tuple #[v1, v2] ∧ IsR w' v1 z 6 ∧ ∃ (p2 : Bool × Unit) (A2 : Option Addr) (n2 c2 : Nat), v2 = .agg #[.bool p2.1, .slice A2 n2 c2] | 7 => ∃ v1 v2, v = .tuple #[v1, v2] ∧ IsR w' v1 z 6 ∧ ∃ (p2 : Bool × Unit) (A2 : Option Addr) (n2 c2 : Nat), v2 = .agg #[.bool p2.1, .slice A2 n2 c2] | 8 => IsR w' v z 6 | 9 => ∃ (p2 : Bool × Unit) (A2 : Option Addr) (n2 c2 : Nat), v = .agg #[.bool p2.1, .slice A2 n2 c2] | 10 => ∃ B, v = .pointer (some ⟨B, 0, none⟩) ∧ W3.heap.size ≤ B ∧ Two w' B (.bool false) (.slice none 0 0) 43 | 11 => ∃ B, v = .pointer (some ⟨B, 0, none⟩) ∧ W3.heap.size ≤ B ∧ Two w' B (.bool false) (.slice none 0 0) 43 | _ => False)
    (by kernel_rfl) (by kernel_rfl) (by kernel_rfl) HF.out (fun w1 w2 hS hb => hS.below hb hS.lt) ?_ ?_ ?_
  · refine Lex.all_cons ?_ (Lex.all_cons ?_ (Lex.all_cons ?_ (Lex.all_cons ?_ (Lex.all_cons ?_ (Lex.all_cons ?_ (Lex.all_cons ?_ (Lex.all_cons ?_ (Lex.all_cons ?_ (Lex.all_cons ?_ (Lex.all_cons ?_ (Lex.all_cons ?_ (Lex.all_nil))))))))))))
    · exact fun v w1 w2 h _ => h
    · exact fun v w1 w2 h _ => h
    · exact fun v w1 w2 h hb => IsR.below h hb
    · exact fun v w1 w2 h _ => h
    · exact fun v w1 w2 h _ => h
    · exact fun v w1 w2 h hb => IsR.below h hb
    · exact fun v w1 w2 ⟨v1, v2, h1, h2, h3⟩ hb => ⟨v1, v2, h1, h2.below hb, h3⟩
    · exact fun v w1 w2 ⟨v1, v2, h1, h2, h3⟩ hb => ⟨v1, v2, h1, h2.below hb, h3⟩
    · exact fun v w1 w2 h hb => IsR.below h hb
    · exact fun v w1 w2 h _ => h
    · exact fun v w1 w2 ⟨B, hv, hl, hT⟩ hb => ⟨B, hv, hl, hT.below hb hT.lt⟩
    · exact fun v w1 w2 ⟨B, hv, hl, hT⟩ hb => ⟨B, hv, hl, hT.below hb hT.lt⟩
  · refine Lex.all_cons ?_ (Lex.all_cons ?_ (Lex.all_cons ?_ (Lex.all_cons ?_ (Lex.all_cons ?_ (Lex.all_cons ?_ (Lex.all_cons ?_ (Lex.all_cons ?_ (Lex.all_cons ?_ (Lex.all_cons ?_ (Lex.all_cons ?_ (Lex.all_cons ?_ (Lex.all_nil))))))))))))
    · refine Lex.ob_eager rfl rfl (fun σ w1 hS hB hg => ⟨.pointer (some ⟨w.heap.size, 0, none⟩), rfl, fun w2 hS => ?_, rfl⟩)
      clear hg
      simp only [Lex.full, Act.put, List.setIfInBounds_toArray, List.set_cons_zero, List.set_cons_succ]
      clear hS
      go_simp
      all_goals with_reducible rfl
    · refine Lex.ob_eager rfl rfl (fun σ w1 hS hB hg => ⟨.int .i64 p, rfl, fun w2 hS => ?_, rfl⟩)
      have g0 : (σ 0) = .pointer (some ⟨w.heap.size, 0, none⟩) := hg (0, 8) (by simp) (by kernel_rfl)
      clear hg
      simp only [Lex.full, Act.put, List.setIfInBounds_toArray, List.set_cons_zero, List.set_cons_succ]
      have f0_0 := hS.cell0
      have f0_1 := hS.cell1
      clear hS
      simp only [g0]
      go_simp
      all_goals with_reducible rfl
    · refine Lex.ob_step rfl rfl rfl (fun σ w1 hS hB hg K hK => ?_)
      have HK := Lib.hid hK
      clear hK
      have g1 : (σ 1) = .int .i64 p := hg (1, 9) (by simp) (by kernel_rfl)
      clear hg
      simp only [Lex.full, Act.put, List.setIfInBounds_toArray, List.set_cons_zero, List.set_cons_succ]
      simp only [g1]
      have hw1 : Below w.heap.size w w1 := HBW.out.drew.trans (hB.mono HBW.out.size)
      have cc := ci1 w1 hw1
      go_wp2_with fail
      refine cc.mono ?_
      rintro e w2 ⟨v1, rfl, hm, hn⟩
      clear cc
      go_wp2_with fail
      exact HK.out _ _ ⟨rfl, hn, hm, fun h => nomatch h⟩
    · refine Lex.ob_eager rfl rfl (fun σ w1 hS hB hg => ⟨.pointer (some ⟨w.heap.size, 1, none⟩), rfl, fun w2 hS => ?_, rfl⟩)
      clear hg
      simp only [Lex.full, Act.put, List.setIfInBounds_toArray, List.set_cons_zero, List.set_cons_succ]
      clear hS
      go_simp
      all_goals with_reducible rfl
    · refine Lex.ob_eager rfl rfl (fun σ w1 hS hB hg => ⟨.int .i64 q, rfl, fun w2 hS => ?_, rfl⟩)
      have g3 : (σ 3) = .pointer (some ⟨w.heap.size, 1, none⟩) := hg (3, 11) (by simp) (by kernel_rfl)
      clear hg
      simp only [Lex.full, Act.put, List.setIfInBounds_toArray, List.set_cons_zero, List.set_cons_succ]
      have f0_0 := hS.cell0
      have f0_1 := hS.cell1
      clear hS
      simp only [g3]
      go_simp
      all_goals with_reducible rfl
    · refine Lex.ob_step rfl rfl rfl (fun σ w1 hS hB hg K hK => ?_)
      have HK := Lib.hid hK
      clear hK
      have g4 : (σ 4) = .int .i64 q := hg (4, 12) (by simp) (by kernel_rfl)
      clear hg
      simp only [Lex.full, Act.put, List.setIfInBounds_toArray, List.set_cons_zero, List.set_cons_succ]
      simp only [g4]
      have hw1 : Below w.heap.size w w1 := HBW.out.drew.trans (hB.mono HBW.out.size)
      have cc := ci2 w1 hw1
      go_wp2_with fail
      refine cc.mono ?_
      rintro e w2 ⟨v1, rfl, hm, hn⟩
      clear cc
      go_wp2_with fail
      exact HK.out _ _ ⟨rfl, hn, hm, fun h => nomatch h⟩
    · refine Lex.ob_step rfl rfl rfl (fun σ w1 hS hB hg K hK => ?_)
      have HK := Lib.hid hK
      clear hK
      have g2 : IsR w1 (σ 2) p 5 := hg (2, 10) (by simp) (by kernel_rfl)
      have g5 : IsR w1 (σ 5) q 5 := hg (5, 13) (by simp) (by kernel_rfl)
      clear hg
      simp only [Lex.full, Act.put, List.setIfInBounds_toArray, List.set_cons_zero, List.set_cons_succ]
      have hw1 : Below w.heap.size w w1 := HBW.out.drew.trans (hB.mono HBW.out.size)
      have cc := cd' w1 hw1 _ _ g2 g5
      go_wp2_with fail
      refine cc.mono ?_
      rintro e w2 ⟨v1, v2, rfl, hm, hn⟩
      clear cc
      go_wp2_with fail
      exact HK.out _ _ ⟨rfl, hn, ⟨v1, v2, rfl, hm⟩, fun h => nomatch h⟩
    · refine Lex.ob_step rfl rfl rfl (fun σ w1 hS hB hg K hK => ?_)
      have HK := Lib.hid hK
      clear hK
      have g6 : ∃ v1 v2, (σ 6) = .tuple #[v1, v2] ∧ IsR w1 v1 z 6 ∧ ∃ (p2 : Bool × Unit) (A2 : Option Addr) (n2 c2 : Nat), v2 = .agg #[.bool p2.1, .slice A2 n2 c2] := hg (6, 14) (by simp) (by kernel_rfl)
      clear hg
      simp only [Lex.full, Act.put, List.setIfInBounds_toArray, List.set_cons_zero, List.set_cons_succ]
      obtain ⟨v1, v2, e1, hz, hr⟩ := g6
      simp only [e1]
      go_wp2_with fail
      exact HK.out _ _ ⟨rfl, Below.refl _ _, ⟨v1, v2, rfl, hz, hr⟩, fun h => nomatch h⟩
    · refine Lex.ob_step rfl rfl rfl (fun σ w1 hS hB hg K hK => ?_)
      have HK := Lib.hid hK
      clear hK
      have g7 : ∃ v1 v2, (σ 7) = .tuple #[v1, v2] ∧ IsR w1 v1 z 6 ∧ ∃ (p2 : Bool × Unit) (A2 : Option Addr) (n2 c2 : Nat), v2 = .agg #[.bool p2.1, .slice A2 n2 c2] := hg (7, 7) (by simp) (by kernel_rfl)
      clear hg
      simp only [Lex.full, Act.put, List.setIfInBounds_toArray, List.set_cons_zero, List.set_cons_succ]
      obtain ⟨v1, v2, e1, hz, hr⟩ := g7
      simp only [e1]
      go_wp2_with fail
      exact HK.out _ _ ⟨rfl, Below.refl _ _, hz, fun h => nomatch h⟩
    · refine Lex.ob_eager rfl rfl (fun σ w1 hS hB hg => ?_)
      have g7 : ∃ v1 v2, (σ 7) = .tuple #[v1, v2] ∧ IsR w1 v1 z 6 ∧ ∃ (p2 : Bool × Unit) (A2 : Option Addr) (n2 c2 : Nat), v2 = .agg #[.bool p2.1, .slice A2 n2 c2] := hg (7, 7) (by simp) (by kernel_rfl)
      clear hg
      obtain ⟨v1, v2, e1, hz, hr⟩ := g7
      refine ⟨v2, rfl, fun w2 hS => ?_, hr⟩
      simp only [Lex.full, Act.put, List.setIfInBounds_toArray, List.set_cons_zero, List.set_cons_succ]
      clear hS
      simp only [e1]
      go_simp
      all_goals with_reducible rfl
    · refine Lex.ob_step rfl rfl rfl (fun σ w1 hS hB hg K hK => ?_)
      have HK := Lib.hid hK
      clear hK
      clear hg
      simp only [Lex.full, Act.put, List.setIfInBounds_toArray, List.set_cons_zero, List.set_cons_succ]
      go_wp2_with fail
      refine HK.out _ _ ⟨rfl, (Below.refl _ _).alloc (Nat.le_refl _) _, ⟨w1.heap.size, rfl, show W3.heap.size ≤ _ from hB.size, Two.newAt _ _ _ _ _ rfl⟩, fun _ => ?_⟩
      refine Lex.all_cons ?_ (Lex.all_cons ?_ (Lex.all_cons ?_ (Lex.all_cons ?_ (Lex.all_cons ?_ (Lex.all_cons ?_ (Lex.all_cons ?_ (Lex.all_cons ?_ (Lex.all_cons ?_ (Lex.all_cons ?_ (Lex.all_cons ?_ (Lex.all_cons ?_ (Lex.all_nil))))))))))))
      · intro u h; cases h
      · intro u h; cases h
      · intro u h; cases h
      · intro u h; cases h
      · intro u h; cases h
      · intro u h; cases h
      · intro u h; cases h
      · intro u h; cases h
      · intro u h; cases h
      · intro u h; cases h
      · rintro u _ ⟨B, rfl, _, hT⟩ he; have := hT.lt; have he : Value.pointer (some ⟨B, 0, none⟩) = .pointer (some ⟨w1.heap.size, 0, none⟩) := he; injection he with he; injection he with he; injection he with he; omega
      · rintro u _ ⟨B, rfl, _, hT⟩ he; have := hT.lt; have he : Value.pointer (some ⟨B, 0, none⟩) = .pointer (some ⟨w1.heap.size, 0, none⟩) := he; injection he with he; injection he with he; injection he with he; omega
    · refine Lex.ob_step rfl rfl rfl (fun σ w1 hS hB hg K hK => ?_)
      have HK := Lib.hid hK
      clear hK
      clear hg
      simp only [Lex.full, Act.put, List.setIfInBounds_toArray, List.set_cons_zero, List.set_cons_succ]
      go_wp2_with fail
      refine HK.out _ _ ⟨rfl, (Below.refl _ _).alloc (Nat.le_refl _) _, ⟨w1.heap.size, rfl, show W3.heap.size ≤ _ from hB.size, Two.newAt _ _ _ _ _ rfl⟩, fun _ => ?_⟩
      refine Lex.all_cons ?_ (Lex.all_cons ?_ (Lex.all_cons ?_ (Lex.all_cons ?_ (Lex.all_cons ?_ (Lex.all_cons ?_ (Lex.all_cons ?_ (Lex.all_cons ?_ (Lex.all_cons ?_ (Lex.all_cons ?_ (Lex.all_cons ?_ (Lex.all_cons ?_ (Lex.all_nil))))))))))))
      · intro u h; cases h
      · intro u h; cases h
      · intro u h; cases h
      · intro u h; cases h
      · intro u h; cases h
      · intro u h; cases h
      · intro u h; cases h
      · intro u h; cases h
      · intro u h; cases h
      · intro u h; cases h
      · rintro u _ ⟨B, rfl, _, hT⟩ he; have := hT.lt; have he : Value.pointer (some ⟨B, 0, none⟩) = .pointer (some ⟨w1.heap.size, 0, none⟩) := he; injection he with he; injection he with he; injection he with he; omega
      · rintro u _ ⟨B, rfl, _, hT⟩ he; have := hT.lt; have he : Value.pointer (some ⟨B, 0, none⟩) = .pointer (some ⟨w1.heap.size, 0, none⟩) := he; injection he with he; injection he with he; injection he with he; omega
  · intro σ V1_ hS hB hg hd
    have e0 : (σ 0) = .pointer (some ⟨w.heap.size, 0, none⟩) := hg (0, 8) (by simp)
    have e1 : (σ 1) = .int .i64 p := hg (1, 9) (by simp)
    have e2 : IsR V1_ (σ 2) p 5 := hg (2, 10) (by simp)
    have e3 : (σ 3) = .pointer (some ⟨w.heap.size, 1, none⟩) := hg (3, 11) (by simp)
    have e4 : (σ 4) = .int .i64 q := hg (4, 12) (by simp)
    have e5 : IsR V1_ (σ 5) q 5 := hg (5, 13) (by simp)
    have e6 : ∃ v1 v2, (σ 6) = .tuple #[v1, v2] ∧ IsR V1_ v1 z 6 ∧ ∃ (p2 : Bool × Unit) (A2 : Option Addr) (n2 c2 : Nat), v2 = .agg #[.bool p2.1, .slice A2 n2 c2] := hg (6, 14) (by simp)
    have e7 : ∃ v1 v2, (σ 7) = .tuple #[v1, v2] ∧ IsR V1_ v1 z 6 ∧ ∃ (p2 : Bool × Unit) (A2 : Option Addr) (n2 c2 : Nat), v2 = .agg #[.bool p2.1, .slice A2 n2 c2] := hg (7, 7) (by simp)
    have e8 : IsR V1_ (σ 8) z 6 := hg (8, 15) (by simp)
    have e9 : ∃ (p2 : Bool × Unit) (A2 : Option Addr) (n2 c2 : Nat), (σ 9) = .agg #[.bool p2.1, .slice A2 n2 c2] := hg (9, 16) (by simp)
    have e10 : ∃ B, (σ 10) = .pointer (some ⟨B, 0, none⟩) ∧ W3.heap.size ≤ B ∧ Two V1_ B (.bool false) (.slice none 0 0) 43 := hg (10, 3) (by simp)
    have e11 : ∃ B, (σ 11) = .pointer (some ⟨B, 0, none⟩) ∧ W3.heap.size ≤ B ∧ Two V1_ B (.bool false) (.slice none 0 0) 43 := hg (11, 4) (by simp)
    have n1_10_11 : σ 10 ≠ σ 11 := hd (10, 3) (by simp) (11, 4) (by simp) (by decide) rfl rfl
    clear hg hd
    simp only [Lex.full, Act.put, List.setIfInBounds_toArray, List.set_cons_zero, List.set_cons_succ]
    generalize σ 0 = s1_0 at *
    generalize σ 1 = s1_1 at *
    generalize σ 2 = s1_2 at *
    generalize σ 3 = s1_3 at *
    generalize σ 4 = s1_4 at *
    generalize σ 5 = s1_5 at *
    generalize σ 6 = s1_6 at *
    generalize σ 7 = s1_7 at *
    generalize σ 8 = s1_8 at *
    generalize σ 9 = s1_9 at *
    generalize σ 10 = s1_10 at *
    generalize σ 11 = s1_11 at *
    clear σ
    subst e0
    subst e1
    have h5x := e2
    subst e3
    subst e4
    have h5y := e5
    clear e6
    clear e7
    obtain ⟨p7, A7, n7, c7, rfl⟩ := e8.agg'
    have hZ := e8
    clear e8
    obtain ⟨p8, A8, n8, c8, rfl⟩ := e9
    obtain ⟨B1_10, rfl, l1_10, T10⟩ := e10
    have HT1_10 := Lib.hid T10
    clear T10
    obtain ⟨B1_11, rfl, l1_11, T11⟩ := e11
    have HT1_11 := Lib.hid T11
    clear T11
    replace n1_10_11 : B1_10 ≠ B1_11 := fun e => n1_10_11 (by rw [e])
    have HBm := Lib.hid (show Below w.heap.size w V1_ from HBW.out.drew.trans (hB.mono HBW.out.size))
    have HBb := Lib.hid (show Below W3.heap.size W3 V1_ from ⟨hB.os, hB.tape, hB.output, hB.size, hB.block⟩)
    have HSm := Lib.hid hS
    clear hB hS
    have l1_x := HF.out.lt
    have G1_x := Lib.hid HSm.out
    have lw1 := HBW.out.size
    clear HSm HBb HF HBW
    have Y1_z := Lib.hid hZ
    clear hZ
    refine Lex.lex_do rfl ?_
    have r0 := HT1_10.out.cell0
    have g0 := HT1_10.out.free 0
    have r1 := HT1_10.out.cell1
    have g1 := HT1_10.out.free 1
    obtain ⟨V1_s1, hV1⟩ : ∃ V1_s1, V1_s1 = ((V1_.setCell ⟨B1_10, 0, none⟩ (.bool p7.1)).setCell ⟨B1_10, 1, none⟩ (.slice A7 n7 c7)) := ⟨_, rfl⟩
    have HV1 := Lib.hid hV1
    clear hV1
    go_wp2_with fail
    rw [← HV1.out]
    clear r0 g0 r1 g1
    have G1_xs := Lib.hid (show Two V1_s1 w.heap.size (.int .i64 p) (.int .i64 q) 23 by rw [HV1.out]; exact ((G1_x.out.setOther ⟨B1_10, 0, none⟩ _ (by dsimp only; omega)).setOther ⟨B1_10, 1, none⟩ _ (by dsimp only; omega)))
    replace HT1_11 := Lib.hid (show Two V1_s1 _ _ _ _ by rw [HV1.out]; exact ((HT1_11.out.setOther ⟨B1_10, 0, none⟩ _ (by dsimp only; omega)).setOther ⟨B1_10, 1, none⟩ _ (by dsimp only; omega)))
    have G1_q := Lib.hid (show Two V1_s1 B1_10 (.bool p7.1) (.slice A7 n7 c7) 43 by rw [HV1.out]; exact (HT1_10.out.set0 _).set1 _)
    have Y1_zs := Lib.hid (show IsR V1_s1 (.agg #[.bool p7.1, .slice A7 n7 c7]) z 6 by rw [HV1.out]; exact IsR.storedT Y1_z.out HT1_10.out)
    clear Y1_z
    have HB1_1 := Lib.hid (show Below w.heap.size w V1_s1 by rw [HV1.out]; exact ((HBm.out.setCell (by dsimp only; omega) _).setCell (by dsimp only; omega) _))
    clear HV1 HT1_10 HBm G1_x
    refine Lex.lexQ_normal (fun _ => G1_xs.out) ?_
    refine Lex.lex_do rfl ?_
    have r0 := HT1_11.out.cell0
    have g0 := HT1_11.out.free 0
    have r1 := HT1_11.out.cell1
    have g1 := HT1_11.out.free 1
    obtain ⟨V1_s2, hV1⟩ : ∃ V1_s2, V1_s2 = ((V1_s1.setCell ⟨B1_11, 0, none⟩ (.bool p8.1)).setCell ⟨B1_11, 1, none⟩ (.slice A8 n8 c8)) := ⟨_, rfl⟩
    have HV1 := Lib.hid hV1
    clear hV1
    go_wp2_with fail
    rw [← HV1.out]
    clear r0 g0 r1 g1
    have G1_xss := Lib.hid (show Two V1_s2 w.heap.size (.int .i64 p) (.int .i64 q) 23 by rw [HV1.out]; exact ((G1_xs.out.setOther ⟨B1_11, 0, none⟩ _ (by dsimp only; omega)).setOther ⟨B1_11, 1, none⟩ _ (by dsimp only; omega)))
    have G1_qs := Lib.hid (show Two V1_s2 B1_10 (.bool p7.1) (.slice A7 n7 c7) 43 by rw [HV1.out]; exact ((G1_q.out.setOther ⟨B1_11, 0, none⟩ _ (by dsimp only; omega)).setOther ⟨B1_11, 1, none⟩ _ (by dsimp only; omega)))
    have G1_r := Lib.hid (show Two V1_s2 B1_11 (.bool p8.1) (.slice A8 n8 c8) 43 by rw [HV1.out]; exact (HT1_11.out.set0 _).set1 _)
    have Y1_zss := Lib.hid (show IsR V1_s2 (.agg #[.bool p7.1, .slice A7 n7 c7]) z 6 by rw [HV1.out]; exact IsR.storedT Y1_zs.out HT1_11.out)
    clear Y1_zs
    have HB1_2 := Lib.hid (show Below w.heap.size w V1_s2 by rw [HV1.out]; exact ((HB1_1.out.setCell (by dsimp only; omega) _).setCell (by dsimp only; omega) _))
    clear HV1 HT1_11 HB1_1 G1_xs G1_q
    refine Lex.lexQ_normal (fun _ => G1_xss.out) ?_
    refine Lex.lex_nil ?_
    have k0_0 := G1_qs.out.cell0
    have k0_1 := G1_qs.out.cell1
    have hb20 := Below.refl V1_s2.heap.size V1_s2
    have hw20 := HB1_2.out
    have cc := cs V1_s2 hw20 _ (Y1_zss.out.below hb20)
    go_wp2_with fail
    refine cc.mono ?_
    rintro e V21 ⟨v21, rfl, hm21, hn21⟩
    have hb21 := hb20.trans (hn21.mono hb20.size)
    have hw21 := hw20.trans (hn21.mono hw20.size)
    subst hm21
    clear cc hb20 hw20 hn21
    clear k0_0 k0_1
    have k0_0 := (G1_qs.out.below hb21 G1_qs.out.lt).cell0
    have k0_1 := (G1_qs.out.below hb21 G1_qs.out.lt).cell1
    have HE := Lib.hid hw21
    clear hb21 hw21
    go_wp2
    go_ret
    exact ⟨rfl, HE.out⟩

end Go.Proofs.YtklngjjokbhfpaaGreatDoor
