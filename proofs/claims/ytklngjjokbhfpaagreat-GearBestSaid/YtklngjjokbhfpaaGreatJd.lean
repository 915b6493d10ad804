/- The law's narrow (printed by genjd.py). -/
import Derived.Test.YtklngjjokbhfpaaGreatPkHa
namespace Go.Proofs.YtklngjjokbhfpaaGreat
open Go.RowKit

section
variable {w : World} {B : Nat} {a b c d e : Value} {t : TypeId}
theorem Five.free (h : Five w B a b c d e t) (k : Nat) : w.frozen? ⟨B, k, none⟩ = false := by simp [World.frozen?, show w.heap[B]? = _ from h]
theorem Five.setOther (h : Five w B a b c d e t) (p : Addr) (x : Value) (hp : B ≠ p.block) : Five (w.setCell p x) B a b c d e t := (Below.heap_setCell w p x B hp).trans h
theorem Five.set0 (h : Five w B a b c d e t) (x : Value) : Five (w.setCell ⟨B, 0, none⟩ x) B x b c d e t := by
  unfold Five World.setCell
  simp only [Array.getElem?_modify, if_true, show w.heap[B]? = _ from h]
  rfl
theorem Five.set1 (h : Five w B a b c d e t) (x : Value) : Five (w.setCell ⟨B, 1, none⟩ x) B a x c d e t := by
  unfold Five World.setCell
  simp only [Array.getElem?_modify, if_true, show w.heap[B]? = _ from h]
  rfl
theorem Five.set2 (h : Five w B a b c d e t) (x : Value) : Five (w.setCell ⟨B, 2, none⟩ x) B a b x d e t := by
  unfold Five World.setCell
  simp only [Array.getElem?_modify, if_true, show w.heap[B]? = _ from h]
  rfl
theorem Five.set3 (h : Five w B a b c d e t) (x : Value) : Five (w.setCell ⟨B, 3, none⟩ x) B a b c x e t := by
  unfold Five World.setCell
  simp only [Array.getElem?_modify, if_true, show w.heap[B]? = _ from h]
  rfl
theorem Five.set4 (h : Five w B a b c d e t) (x : Value) : Five (w.setCell ⟨B, 4, none⟩ x) B a b c d x t := by
  unfold Five World.setCell
  simp only [Array.getElem?_modify, if_true, show w.heap[B]? = _ from h]
  rfl
end
def narW (lo hi most : Int) : Int := if lo + most < hi then lo + most else hi
theorem narW_lim {wl wh pl ph st most half : Int} (h : LimOk wl wh pl ph st) (h1 : 0 ≤ most) (h2 : 0 ≤ half) : LimOk wl (narW wl wh most) pl (narW pl ph half) st := by
  unfold LimOk narW at *
  split <;> split <;> omega
theorem narW_le (lo hi most : Int) : narW lo hi most ≤ hi ∧ narW lo hi most ≤ lo + most := by
  unfold narW
  split <;> omega

set_option maxRecDepth 100000 in
set_option maxHeartbeats 1600000 in
theorem narrow_bad (wl wh pl ph st most : Int) (w : World) (h : ¬ LimOk wl wh pl ph st) :
    Calls Tryz.prog 11 #[.agg #[.int .i64 wl, .int .i64 wh, .int .i64 pl, .int .i64 ph, .int .i64 st], .int .i64 most] w (RetV (.agg #[.int .i64 wl, .int .i64 wh, .int .i64 pl, .int .i64 ph, .int .i64 st]) w) := by
  have clim : ∀ W (_ : Below w.heap.size w W), Calls Tryz.prog 13 #[.agg #[.int .i64 wl, .int .i64 wh, .int .i64 pl, .int .i64 ph, .int .i64 st]] W (RetW (.bool false) W) := fun W _ => by
    have := rlimits_any wl wh pl ph st W
    rw [decide_eq_false h] at this
    exact this.mono fun e w' h => RetW.of h
  clear h
  obtain ⟨W3, hW3⟩ : ∃ W3, W3 = (w.alloc (.cells #[.int .i64 wl, .int .i64 wh, .int .i64 pl, .int .i64 ph, .int .i64 st] 26)).alloc (.cells #[.int .i64 0, .int .i64 0, .int .i64 0, .int .i64 0, .int .i64 0] 26) := ⟨_, rfl⟩
  have hB3 : Below w.heap.size w W3 := by rw [hW3]; exact ((Below.refl _ _).alloc (Nat.le_refl _) _).alloc (by simp) _
  have hb3 : (w.alloc (.cells #[.int .i64 wl, .int .i64 wh, .int .i64 pl, .int .i64 ph, .int .i64 st] 26)).heap.size = w.heap.size + 1 := by simp
  have hL : Five W3 w.heap.size (.int .i64 wl) (.int .i64 wh) (.int .i64 pl) (.int .i64 ph) (.int .i64 st) 26 := by
    rw [hW3]
    exact (Five.newAt w _ _ _ _ _ _ _ rfl).below ((Below.refl (w.heap.size + 1) _).alloc (by rw [hb3]; exact Nat.le_refl _) _) (by omega)
  have hR : Five W3 (w.heap.size + 1) (.int .i64 0) (.int .i64 0) (.int .i64 0) (.int .i64 0) (.int .i64 0) 26 := by rw [hW3]; exact Five.newAt _ _ _ _ _ _ _ _ (by simp)
  clear hb3
  have HBW := Lib.hid hB3
  have HL := Lib.hid hL
  have HR := Lib.hid hR
  clear hB3 hL hR
  go_enter Tryz.func11, Tryz.ntmps11
  go_upto_region 1 with fail
  rw [← hW3]
  clear hW3
  have k0 := HL.out.cell0
  have k1 := HL.out.cell1
  have k2 := HL.out.cell2
  have k3 := HL.out.cell3
  have k4 := HL.out.cell4
  have cc := clim W3 HBW.out
  go_wp2_with fail
  refine cc.mono ?_
  rintro e V1 ⟨v1, rfl, hm1, hn1⟩
  subst hm1
  have F1 := Lib.hid (HL.out.below hn1 HL.out.lt)
  have F2 := Lib.hid (HR.out.below hn1 HR.out.lt)
  have F3 := Lib.hid (HBW.out.trans (hn1.mono HBW.out.size))
  clear cc clim k0 k1 k2 k3 k4 hn1 HL HR HBW
  have k0 := F1.out.cell0
  have k1 := F1.out.cell1
  have k2 := F1.out.cell2
  have k3 := F1.out.cell3
  have k4 := F1.out.cell4
  have r0 := F2.out.cell0
  have g0 := F2.out.free 0
  have r1 := F2.out.cell1
  have g1 := F2.out.free 1
  have r2 := F2.out.cell2
  have g2 := F2.out.free 2
  have r3 := F2.out.cell3
  have g3 := F2.out.free 3
  have r4 := F2.out.cell4
  have g4 := F2.out.free 4
  go_wp2
  refine bodyPost_ret (v := .agg #[.int .i64 wl, .int .i64 wh, .int .i64 pl, .int .i64 ph, .int .i64 st]) (by simp [results, Tryz.results11, go_sem, r0, r1, r2, r3, r4, g0, g1, g2, g3, g4]) rfl ⟨rfl, ?_⟩
  exact ((((F3.out.setCell (by dsimp only; omega) _).setCell (by dsimp only; omega) _).setCell (by dsimp only; omega) _).setCell (by dsimp only; omega) _).setCell (by dsimp only; omega) _

set_option maxRecDepth 100000 in
set_option maxHeartbeats 1600000 in
theorem narrow_ok (wl wh pl ph st most half w2 p2 : Int) (w : World) (h : LimOk wl wh pl ph st) (h1 : 0 ≤ most) (h2 : most ≤ 100) (hh : half = most / 2) (hw2 : narW wl wh most = w2) (hp2 : narW pl ph half = p2) :
    Calls Tryz.prog 11 #[.agg #[.int .i64 wl, .int .i64 wh, .int .i64 pl, .int .i64 ph, .int .i64 st], .int .i64 most] w (RetV (.agg #[.int .i64 wl, .int .i64 w2, .int .i64 pl, .int .i64 p2, .int .i64 st]) w) := by
  have clim : ∀ W (_ : Below w.heap.size w W), Calls Tryz.prog 13 #[.agg #[.int .i64 wl, .int .i64 wh, .int .i64 pl, .int .i64 ph, .int .i64 st]] W (RetW (.bool true) W) := fun W _ => by
    have := rlimits_any wl wh pl ph st W
    rw [decide_eq_true h] at this
    exact this.mono fun e w' h => RetW.of h
  have HX1 := Lib.hid (show (if wl + most < wh then wl + most else wh) = w2 from hw2)
  have HX2 := Lib.hid (show (if pl + half < ph then pl + half else ph) = p2 from hp2)
  have HX3 := Lib.hid (show Int.tdiv most 2 = half by rw [hh]; exact Int.tdiv_eq_ediv_of_nonneg h1)
  have HU := Lib.hid (show (-9223372036854775808 ≤ wl + most ∧ wl + most ≤ 9223372036854775807) ∧ (-9223372036854775808 ≤ pl + half ∧ pl + half ≤ 9223372036854775807) ∧ (-9223372036854775808 ≤ half ∧ half ≤ 9223372036854775807) by
    obtain ⟨l1, l2, l3, l4, l5, l6, l7, l8, l9, l10⟩ := h
    omega)
  clear h h1 h2 hh hw2 hp2
  obtain ⟨W3, hW3⟩ : ∃ W3, W3 = (w.alloc (.cells #[.int .i64 wl, .int .i64 wh, .int .i64 pl, .int .i64 ph, .int .i64 st] 26)).alloc (.cells #[.int .i64 0, .int .i64 0, .int .i64 0, .int .i64 0, .int .i64 0] 26) := ⟨_, rfl⟩
  have hB3 : Below w.heap.size w W3 := by rw [hW3]; exact ((Below.refl _ _).alloc (Nat.le_refl _) _).alloc (by simp) _
  have hb3 : (w.alloc (.cells #[.int .i64 wl, .int .i64 wh, .int .i64 pl, .int .i64 ph, .int .i64 st] 26)).heap.size = w.heap.size + 1 := by simp
  have hL : Five W3 w.heap.size (.int .i64 wl) (.int .i64 wh) (.int .i64 pl) (.int .i64 ph) (.int .i64 st) 26 := by
    rw [hW3]
    exact (Five.newAt w _ _ _ _ _ _ _ rfl).below ((Below.refl (w.heap.size + 1) _).alloc (by rw [hb3]; exact Nat.le_refl _) _) (by omega)
  have hR : Five W3 (w.heap.size + 1) (.int .i64 0) (.int .i64 0) (.int .i64 0) (.int .i64 0) (.int .i64 0) 26 := by rw [hW3]; exact Five.newAt _ _ _ _ _ _ _ _ (by simp)
  clear hb3
  have HBW := Lib.hid hB3
  have HL := Lib.hid hL
  have HR := Lib.hid hR
  clear hB3 hL hR
  go_enter Tryz.func11, Tryz.ntmps11
  go_upto_region 1 with fail
  rw [← hW3]
  clear hW3
  have k0 := HL.out.cell0
  have k1 := HL.out.cell1
  have k2 := HL.out.cell2
  have k3 := HL.out.cell3
  have k4 := HL.out.cell4
  have cc := clim W3 HBW.out
  go_wp2_with fail
  refine cc.mono ?_
  rintro e V1 ⟨v1, rfl, hm1, hn1⟩
  subst hm1
  have F1 := Lib.hid (HL.out.below hn1 HL.out.lt)
  have F2 := Lib.hid (HR.out.below hn1 HR.out.lt)
  have F3 := Lib.hid (HBW.out.trans (hn1.mono HBW.out.size))
  clear cc clim k0 k1 k2 k3 k4 hn1 HL HR HBW
  have k0 := F1.out.cell0
  have k1 := F1.out.cell1
  have k2 := F1.out.cell2
  have k3 := F1.out.cell3
  have k4 := F1.out.cell4
  have g1 := F1.out.free 1
  have x1 := HX1.out
  have x3 := HX3.out
  obtain ⟨⟨u1, u2⟩, ⟨u3, u4⟩, ⟨u5, u6⟩⟩ := HU.out
  obtain ⟨V2, hV2⟩ : ∃ V2, V2 = V1.setCell ⟨w.heap.size, 1, none⟩ (.int .i64 w2) := ⟨_, rfl⟩
  go_upto_region 3 with fail
  rw [← hV2]
  have F4 := Lib.hid (show Five V2 w.heap.size (.int .i64 wl) (.int .i64 w2) (.int .i64 pl) (.int .i64 ph) (.int .i64 st) 26 by rw [hV2]; exact F1.out.set1 _)
  have F5 := Lib.hid (show Five V2 (w.heap.size + 1) (.int .i64 0) (.int .i64 0) (.int .i64 0) (.int .i64 0) (.int .i64 0) 26 by rw [hV2]; exact F2.out.setOther _ _ (by dsimp only; omega))
  have F6 := Lib.hid (show Below w.heap.size w V2 by rw [hV2]; exact F3.out.setCell (by dsimp only; omega) _)
  clear k0 k1 k2 k3 k4 g1 x1 hV2 F1 F2 F3
  have k0 := F4.out.cell0
  have k1 := F4.out.cell1
  have k2 := F4.out.cell2
  have k3 := F4.out.cell3
  have k4 := F4.out.cell4
  have g3 := F4.out.free 3
  have x2 := HX2.out
  obtain ⟨V3, hV3⟩ : ∃ V3, V3 = V2.setCell ⟨w.heap.size, 3, none⟩ (.int .i64 p2) := ⟨_, rfl⟩
  go_upto_region 4 with fail
  rw [← hV3]
  have F1 := Lib.hid (show Five V3 w.heap.size (.int .i64 wl) (.int .i64 w2) (.int .i64 pl) (.int .i64 p2) (.int .i64 st) 26 by rw [hV3]; exact F4.out.set3 _)
  have F2 := Lib.hid (show Five V3 (w.heap.size + 1) (.int .i64 0) (.int .i64 0) (.int .i64 0) (.int .i64 0) (.int .i64 0) 26 by rw [hV3]; exact F5.out.setOther _ _ (by dsimp only; omega))
  have F3 := Lib.hid (show Below w.heap.size w V3 by rw [hV3]; exact F6.out.setCell (by dsimp only; omega) _)
  clear k0 k1 k2 k3 k4 g3 x2 x3 hV3 F4 F5 F6 u1 u2 u3 u4 u5 u6
  have k0 := F1.out.cell0
  have k1 := F1.out.cell1
  have k2 := F1.out.cell2
  have k3 := F1.out.cell3
  have k4 := F1.out.cell4
  have r0 := F2.out.cell0
  have g0 := F2.out.free 0
  have r1 := F2.out.cell1
  have g1 := F2.out.free 1
  have r2 := F2.out.cell2
  have g2 := F2.out.free 2
  have r3 := F2.out.cell3
  have g3 := F2.out.free 3
  have r4 := F2.out.cell4
  have g4 := F2.out.free 4
  go_wp2
  refine bodyPost_ret (v := .agg #[.int .i64 wl, .int .i64 w2, .int .i64 pl, .int .i64 p2, .int .i64 st]) (by simp [results, Tryz.results11, go_sem, r0, r1, r2, r3, r4, g0, g1, g2, g3, g4]) rfl ⟨rfl, ?_⟩
  exact ((((F3.out.setCell (by dsimp only; omega) _).setCell (by dsimp only; omega) _).setCell (by dsimp only; omega) _).setCell (by dsimp only; omega) _).setCell (by dsimp only; omega) _

end Go.Proofs.YtklngjjokbhfpaaGreat
