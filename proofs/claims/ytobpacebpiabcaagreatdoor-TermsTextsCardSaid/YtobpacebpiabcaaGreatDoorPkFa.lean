/- Texts Fb Fa Fc Fd Fe Ff Fg Fh Fi Fj in one. -/
import Derived.Test.YtobpacebpiabcaaGreatDoorPkAd
import Derived.Test.YtobpacebpiabcaaGreatDoorPkBl
import Derived.Test.YtobpacebpiabcaaGreatDoorPkBo
import Derived.Laws.IdiomStrings
import Derived.Test.YtobpacebpiabcaaGreatDoorCe
import Derived.Test.YtobpacebpiabcaaGreatDoorPkBc
import Derived.Test.YtobpacebpiabcaaGreatDoorBu
import Derived.Test.YtobpacebpiabcaaGreatDoorCf
import Derived.Test.YtobpacebpiabcaaGreatDoorPkDg
namespace Go.Proofs.YtobpacebpiabcaaGreatDoor
open Go.RowKit Go.Lib

theorem Fo.ext_get : ∀ (f g : Fo), f.len = g.len → (∀ j, j < f.len → f.get j = g.get j) → f = g
  | .nil, .nil, _, _ => rfl
  | .nil, .cons _ _ _ _ _, h, _ => by simp [Fo.len] at h
  | .cons _ _ _ _ _, .nil, h, _ => by simp [Fo.len] at h
  | .cons k nm n ks r, .cons k2 nm2 n2 ks2 r2, h, hg => by
    have h0 : (k, nm, n, ks) = (k2, nm2, n2, ks2) := hg 0 (by simp [Fo.len])
    have hr := ext_get r r2 (by simpa [Fo.len] using h) (fun j hj => hg (j + 1) (by simpa [Fo.len] using hj))
    injection h0 with a1 a2
    injection a2 with a2 a3
    injection a3 with a3 a4
    subst a1 a2 a3 a4 hr
    rfl
theorem same_false {f g : Fo} (h : f ≠ g) : Fo.same f g = false := by
  cases hs : Fo.same f g with
  | false => rfl
  | true => exact absurd ((Fo.same_iff f g).1 hs) h
theorem tmsame_eq (k : Int) (nm : List UInt8) (n : Int) (ks : Fo) (k2 : Int) (nm2 : List UInt8) (n2 : Int) (ks2 : Fo) : Tm.same (k, nm, n, ks) (k2, nm2, n2, ks2) = (decide (k = k2) && decide (nm = nm2) && decide (n = n2) && Fo.same ks ks2) := by
  unfold Tm.same Tm.fo
  simp [Fo.same]
def SameOk (N : Nat) : Prop := ∀ (t u : Tm) (S T : Nat → Prop) (v v' : Value) (w : World), t.2.2.2.cnt < N → TmV S w v t → TmV T w v' u → Calls Tryz.prog 42 #[v, v'] w (RetW (.bool (t.same u)) w)
set_option maxRecDepth 100000 in
set_option maxHeartbeats 6400000 in
theorem same_step (N : Nat) (IH : SameOk N) : SameOk (N + 1) := by
  intro t u S T v v' w hcnt hv hv'
  obtain ⟨x, rfl, hx⟩ := hv
  obtain ⟨y, rfl, hy⟩ := hv'
  obtain ⟨k, nm, n, ks⟩ := t
  obtain ⟨k2, nm2, n2, ks2⟩ := u
  obtain ⟨A, m, c, rfl, hm, hmc, hcm, hks⟩ := hx.open'
  obtain ⟨A2, m2, c2, rfl, hm2, hmc2, hcm2, hks2⟩ := hy.open'
  dsimp only at *
  have HSE := Lib.hid (tmsame_eq k nm n ks k2 nm2 n2 ks2)
  generalize Tm.same (k, nm, n, ks) (k2, nm2, n2, ks2) = res at *
  have HIH := Lib.hid (show ∀ W j (_ : j < m) (_ : j < m2) (_ : Below w.heap.size w W) u u' (_ : KidsV S w u (ks.get j).2.2.2) (_ : KidsV T w u' (ks2.get j).2.2.2), Calls Tryz.prog 42 #[.agg #[.int .i64 (ks.get j).1, .string ⟨(ks.get j).2.1.toArray⟩, .int .i64 (ks.get j).2.2.1, u], .agg #[.int .i64 (ks2.get j).1, .string ⟨(ks2.get j).2.1.toArray⟩, .int .i64 (ks2.get j).2.2.1, u']] W (RetW (.bool ((ks.get j).same (ks2.get j))) W) from
    fun W j hj hj2 hb u u' hu hu' => IH (ks.get j) (ks2.get j) S T _ _ W (by have := Fo.get_cnt ks j (by omega); omega) ⟨u, rfl, hu.below hb⟩ ⟨u', rfl, hu'.below hb⟩)
  have HG := Lib.hid (fun b off (e : A = some ⟨b, off, none⟩) j (hj : j < ks.len) => KidsAt.get (b := b) (off := off) (i := j) (show KidsAt S w (some ⟨b, off, none⟩) ks by rw [← e]; exact hks) hj)
  have HAT := Lib.hid (fun (h : 0 < ks.len) => hks.at h)
  have HG2 := Lib.hid (fun b off (e : A2 = some ⟨b, off, none⟩) j (hj : j < ks2.len) => KidsAt.get (b := b) (off := off) (i := j) (show KidsAt T w (some ⟨b, off, none⟩) ks2 by rw [← e]; exact hks2) hj)
  have HAT2 := Lib.hid (fun (h : 0 < ks2.len) => hks2.at h)
  have HM := Lib.hid hm
  have HM2 := Lib.hid hm2
  unfold maxLen at hcm hcm2
  obtain ⟨W3, hW3⟩ : ∃ W3, W3 = w.alloc (.cells #[.int .i64 k, .string ⟨nm.toArray⟩, .int .i64 n, .slice A m c] 26) := ⟨_, rfl⟩
  have HBW := Lib.hid (show Below w.heap.size w W3 by rw [hW3]; exact (Below.refl _ _).alloc (Nat.le_refl _) _)
  have HX := Lib.hid (show Blk W3 w.heap.size #[.int .i64 k, .string ⟨nm.toArray⟩, .int .i64 n, .slice A m c] 26 by rw [hW3]; exact Blk.new _ _ _)
  obtain ⟨W4, hW4⟩ : ∃ W4, W4 = W3.alloc (.cells #[.int .i64 k2, .string ⟨nm2.toArray⟩, .int .i64 n2, .slice A2 m2 c2] 26) := ⟨_, rfl⟩
  have HBW4 := Lib.hid (show Below w.heap.size w W4 by rw [hW4]; exact HBW.out.alloc HBW.out.size _)
  have HX4 := Lib.hid (show Blk W4 w.heap.size #[.int .i64 k, .string ⟨nm.toArray⟩, .int .i64 n, .slice A m c] 26 by rw [hW4]; exact HX.out.below ((Below.refl _ _).alloc (Nat.le_refl _) _))
  have HY4 := Lib.hid (show Blk W4 W3.heap.size #[.int .i64 k2, .string ⟨nm2.toArray⟩, .int .i64 n2, .slice A2 m2 c2] 26 by rw [hW4]; exact Blk.new _ _ _)
  obtain ⟨H, hH⟩ : ∃ H, w.heap.size + 1 = H := ⟨_, rfl⟩
  have HHX := Lib.hid (show w.heap.size < H by omega)
  rw [show W3.heap.size = H by rw [← hH, hW3]; simp] at HY4
  clear IH hks hks2 hx hy hm hm2 hcnt HX HBW
  by_cases e1 : k = k2
  case neg =>
    have d1 : (k == k2) = false := beq_eq_false_iff_ne.2 e1
    have d1' : (k != k2) = true := bne_iff_ne.2 e1
    have HRES := Lib.hid (show res = false by rw [HSE.out, decide_eq_false e1]; simp)
    clear HIH HG HAT HG2 HAT2
    go_enter Tryz.func42, Tryz.ntmps42
    go_upto_region 1 with fail
    rw [← hW3, ← hW4]
    clear hW3 hW4 hH
    have x0 := HX4.out.cell 0
    have x1 := HX4.out.cell 1
    have x2 := HX4.out.cell 2
    have x3 := HX4.out.cell 3
    have y0 := HY4.out.cell 0
    have y1 := HY4.out.cell 1
    have y2 := HY4.out.cell 2
    have y3 := HY4.out.cell 3
    go_wp2
    go_ret
    exact ⟨by rw [HRES.out]; rfl, HBW4.out⟩
  subst e1
  by_cases e2 : nm = nm2
  case neg =>
    have d2 : (nm == nm2) = false := beq_eq_false_iff_ne.2 e2
    have d2' : (nm != nm2) = true := bne_iff_ne.2 e2
    have HRES := Lib.hid (show res = false by rw [HSE.out, decide_eq_false e2]; simp)
    clear HIH HG HAT HG2 HAT2
    go_enter Tryz.func42, Tryz.ntmps42
    go_upto_region 1 with fail
    rw [← hW3, ← hW4]
    clear hW3 hW4 hH
    have x0 := HX4.out.cell 0
    have x1 := HX4.out.cell 1
    have x2 := HX4.out.cell 2
    have x3 := HX4.out.cell 3
    have y0 := HY4.out.cell 0
    have y1 := HY4.out.cell 1
    have y2 := HY4.out.cell 2
    have y3 := HY4.out.cell 3
    go_wp2
    go_ret
    exact ⟨by rw [HRES.out]; rfl, HBW4.out⟩
  subst e2
  by_cases e3 : n = n2
  case neg =>
    have d3 : (n == n2) = false := beq_eq_false_iff_ne.2 e3
    have d3' : (n != n2) = true := bne_iff_ne.2 e3
    have HRES := Lib.hid (show res = false by rw [HSE.out, decide_eq_false e3]; simp)
    clear HIH HG HAT HG2 HAT2
    go_enter Tryz.func42, Tryz.ntmps42
    go_upto_region 1 with fail
    rw [← hW3, ← hW4]
    clear hW3 hW4 hH
    have x0 := HX4.out.cell 0
    have x1 := HX4.out.cell 1
    have x2 := HX4.out.cell 2
    have x3 := HX4.out.cell 3
    have y0 := HY4.out.cell 0
    have y1 := HY4.out.cell 1
    have y2 := HY4.out.cell 2
    have y3 := HY4.out.cell 3
    go_wp2
    go_ret
    exact ⟨by rw [HRES.out]; rfl, HBW4.out⟩
  subst e3
  have HSE2 := Lib.hid (show res = Fo.same ks ks2 by rw [HSE.out]; simp)
  by_cases e4 : m = m2
  case neg =>
    have d4 : ((m : Int) == (m2 : Int)) = false := beq_eq_false_iff_ne.2 (by omega)
    have d4' : ((m : Int) != (m2 : Int)) = true := bne_iff_ne.2 (by omega)
    have HRES := Lib.hid (show res = false by rw [HSE2.out]; exact same_false (fun e => e4 (by rw [← HM.out, ← HM2.out, e])))
    clear HIH HG HAT HG2 HAT2
    go_enter Tryz.func42, Tryz.ntmps42
    go_upto_region 1 with fail
    rw [← hW3, ← hW4]
    clear hW3 hW4 hH
    have x0 := HX4.out.cell 0
    have x1 := HX4.out.cell 1
    have x2 := HX4.out.cell 2
    have x3 := HX4.out.cell 3
    have y0 := HY4.out.cell 0
    have y1 := HY4.out.cell 1
    have y2 := HY4.out.cell 2
    have y3 := HY4.out.cell 3
    go_wp2
    go_ret
    exact ⟨by rw [HRES.out]; rfl, HBW4.out⟩
  subst e4
  go_enter Tryz.func42, Tryz.ntmps42
  go_upto_region 1 with fail
  rw [← hW3, ← hW4]
  clear hW3 hW4 hH
  have x0 := HX4.out.cell 0
  have x1 := HX4.out.cell 1
  have x2 := HX4.out.cell 2
  have x3 := HX4.out.cell 3
  have y0 := HY4.out.cell 0
  have y1 := HY4.out.cell 1
  have y2 := HY4.out.cell 2
  have y3 := HY4.out.cell 3
  go_wp2
  clear x0 x1 x2 x3 y0 y1 y2 y3
  go_loopw [5] (fun i wr => ∃ (j : Nat), j ≤ m ∧ i = .int .i64 j ∧ (∀ q, q < j → ks.get q = ks2.get q) ∧ Below w.heap.size w wr ∧ Blk wr w.heap.size #[.int .i64 k, .string ⟨nm.toArray⟩, .int .i64 n, .slice A m c] 26 ∧ Blk wr H #[.int .i64 k, .string ⟨nm.toArray⟩, .int .i64 n, .slice A2 m c2] 26) (fun i _ => m - (intOf i).toNat)
  case atStart => exact ⟨0, Nat.zero_le _, rfl, fun q hq => by omega, HBW4.out, HX4.out, HY4.out⟩
  case round =>
    clear HX4 HY4 HBW4
    obtain ⟨j, hj, rfl, hall, hbw, hbx, hby⟩ := hrel
    have HALL := Lib.hid hall
    have HB := Lib.hid hbw
    have HX := Lib.hid hbx
    have HY := Lib.hid hby
    clear hall hbw hbx hby
    have x3 := HX.out.cell 3
    by_cases hlt : j < m
    · have hlt2 : j < ks.len := by rw [HM.out]; exact hlt
      have hlt3 : j < ks2.len := by rw [HM2.out]; exact hlt
      obtain ⟨b, off, rfl, _, hb⟩ := HAT.out (by omega)
      obtain ⟨u, hu, hc0, hc1, hc2, hc3⟩ := HG.out b off rfl j hlt2
      obtain ⟨b2, off2, rfl, _, hb2⟩ := HAT2.out (by omega)
      obtain ⟨u2, hu2, hd0, hd1, hd2, hd3⟩ := HG2.out b2 off2 rfl j hlt3
      obtain ⟨A3, m3, c3, rfl, -⟩ := hu.open'
      obtain ⟨A4, m4, c4, rfl, -⟩ := hu2.open'
      have HCR := Lib.hid (fun W hb => HIH.out W j hlt hlt hb _ _ hu hu2)
      have HC0 := Lib.hid (And.intro ((HB.out.cell (p := ⟨b, off + j * 4, none⟩) hb).trans hc0) (Nat.lt_of_lt_of_le hb HB.out.size))
      have HD0 := Lib.hid (And.intro ((HB.out.cell (p := ⟨b2, off2 + j * 4, none⟩) hb2).trans hd0) (Nat.lt_of_lt_of_le hb2 HB.out.size))
      have HC1 := Lib.hid (And.intro ((HB.out.cell (p := ⟨b, off + j * 4 + 1, none⟩) hb).trans hc1) (Nat.lt_of_lt_of_le hb HB.out.size))
      have HD1 := Lib.hid (And.intro ((HB.out.cell (p := ⟨b2, off2 + j * 4 + 1, none⟩) hb2).trans hd1) (Nat.lt_of_lt_of_le hb2 HB.out.size))
      have HC2 := Lib.hid (And.intro ((HB.out.cell (p := ⟨b, off + j * 4 + 2, none⟩) hb).trans hc2) (Nat.lt_of_lt_of_le hb HB.out.size))
      have HD2 := Lib.hid (And.intro ((HB.out.cell (p := ⟨b2, off2 + j * 4 + 2, none⟩) hb2).trans hd2) (Nat.lt_of_lt_of_le hb2 HB.out.size))
      have HC3 := Lib.hid (And.intro ((HB.out.cell (p := ⟨b, off + j * 4 + 3, none⟩) hb).trans hc3) (Nat.lt_of_lt_of_le hb HB.out.size))
      have HD3 := Lib.hid (And.intro ((HB.out.cell (p := ⟨b2, off2 + j * 4 + 3, none⟩) hb2).trans hd3) (Nat.lt_of_lt_of_le hb2 HB.out.size))
      have HX3 := Lib.hid (And.intro (HX.out.cell 3) HX.out.lt)
      have HY3 := Lib.hid (And.intro (HY.out.cell 3) HY.out.lt)
      have HBR := Lib.hid (Below.refl wr.heap.size wr)
      have hjm : (j : Int) < (m : Int) := by omega
      have hj0 : (0 : Int) ≤ (j : Int) := by omega
      generalize hka : (ks.get j).1 = ka at *
      generalize hkb : (ks.get j).2.1 = kb at *
      generalize hkc : (ks.get j).2.2.1 = kc at *
      generalize hla : (ks2.get j).1 = la at *
      generalize hlb : (ks2.get j).2.1 = lb at *
      generalize hlc : (ks2.get j).2.2.1 = lc at *
      cases hsm : (ks.get j).same (ks2.get j) with
      | true =>
        have HGE := Lib.hid ((Tm.same_iff _ _).1 hsm)
        have HCT := Lib.hid (fun W hb => by have h := HCR.out W hb; rw [hsm] at h; exact h)
        clear hc0 hc1 hc2 hc3 hd0 hd1 hd2 hd3 hu hu2 hka hkb hkc hla hlb hlc HG HAT HG2 HAT2 HIH HCR hsm
        go_upto_region 6 with fail
        clear x3
        refine Lex.wp_region_lex (fun w' => Below wr.heap.size wr w') (fun _ => true)
          [(0, true), (1, true), (2, true), (3, true), (4, true), (5, true), (6, true), (7, true), (8, true), (9, true), (10, false), (11, true)]
          (by kernel_rfl) (by kernel_rfl) (by kernel_rfl) (by kernel_rfl) ⟨rfl, rfl, rfl, Nat.le_refl _, fun _ _ => rfl⟩ ?_
        have hb0 : Below wr.heap.size wr wr.drew := ⟨rfl, rfl, rfl, Nat.le_refl _, fun _ _ => rfl⟩
        have hw0 : Below w.heap.size w wr.drew := ⟨HB.out.os, HB.out.tape, HB.out.output, HB.out.size, HB.out.block⟩
        generalize hV0 : wr.drew = V0 at *
        clear hV0
        iterate 10 (refine Lex.lex_take (v := ?_) rfl rfl (by rfl) (fun _ hS => ?_) ?_; rotate_left 1; (focus (have g0 := (hS.cell HC0.out.2).trans HC0.out.1; have g1 := (hS.cell HC1.out.2).trans HC1.out.1; have g2 := (hS.cell HC2.out.2).trans HC2.out.1; have g3 := (hS.cell HC3.out.2).trans HC3.out.1; have g4 := (hS.cell HD0.out.2).trans HD0.out.1; have g5 := (hS.cell HD1.out.2).trans HD1.out.1; have g6 := (hS.cell HD2.out.2).trans HD2.out.1; have g7 := (hS.cell HD3.out.2).trans HD3.out.1; have g8 := (hS.cell HX3.out.2).trans HX3.out.1; have g9 := (hS.cell HY3.out.2).trans HY3.out.1; clear hS; go_simp; with_reducible rfl)); simp only [List.setIfInBounds_toArray, List.set_cons_zero, List.set_cons_succ])
        refine Lex.lex_do rfl ?_
        have cc := HCT.out V0 hw0
        go_wp2_with fail
        refine cc.mono ?_
        rintro e V1 ⟨rfl, hn1⟩
        have hb1 := hb0.trans (hn1.mono hb0.size)
        have hw1 := hw0.trans (hn1.mono hw0.size)
        clear cc hb0 hw0
        clear hn1
        go_wp2_with fail
        refine Lex.lexQ_normal (fun _ => hb1) ?_
        refine Lex.lex_take (v := ?_) rfl rfl (by rfl) (fun _ hS => ?_) ?_; rotate_left 1; (focus (have g0 := (hS.cell HC0.out.2).trans HC0.out.1; have g1 := (hS.cell HC1.out.2).trans HC1.out.1; have g2 := (hS.cell HC2.out.2).trans HC2.out.1; have g3 := (hS.cell HC3.out.2).trans HC3.out.1; have g4 := (hS.cell HD0.out.2).trans HD0.out.1; have g5 := (hS.cell HD1.out.2).trans HD1.out.1; have g6 := (hS.cell HD2.out.2).trans HD2.out.1; have g7 := (hS.cell HD3.out.2).trans HD3.out.1; have g8 := (hS.cell HX3.out.2).trans HX3.out.1; have g9 := (hS.cell HY3.out.2).trans HY3.out.1; clear hS; go_simp; with_reducible rfl)); simp only [List.setIfInBounds_toArray, List.set_cons_zero, List.set_cons_succ]
        refine Lex.lex_nil ?_
        have HB1 := Lib.hid hb1
        have HW1 := Lib.hid hw1
        go_wp2
        go_roundw
        case rel => exact ⟨j + 1, by omega, by go_num, fun q hq => by
          by_cases e : q = j
          · subst e; exact HGE.out
          · exact HALL.out q (by omega), HW1.out, HX.out.below HB1.out, HY.out.below HB1.out⟩
        case measure => simp [intOf]; omega
      | false =>
        have HRES := Lib.hid (show res = false by
          rw [HSE2.out]
          refine same_false (fun e => ?_)
          subst e
          rw [(Tm.same_iff _ _).2 rfl] at hsm
          cases hsm)
        have HCT := Lib.hid (fun W hb => by have h := HCR.out W hb; rw [hsm] at h; exact h)
        clear hc0 hc1 hc2 hc3 hd0 hd1 hd2 hd3 hu hu2 hka hkb hkc hla hlb hlc HG HAT HG2 HAT2 HIH HCR hsm
        go_upto_region 6 with fail
        clear x3
        refine Lex.wp_region_lex (fun w' => Below wr.heap.size wr w') (fun _ => true)
          [(0, true), (1, true), (2, true), (3, true), (4, true), (5, true), (6, true), (7, true), (8, true), (9, true), (10, false), (11, true)]
          (by kernel_rfl) (by kernel_rfl) (by kernel_rfl) (by kernel_rfl) ⟨rfl, rfl, rfl, Nat.le_refl _, fun _ _ => rfl⟩ ?_
        have hb0 : Below wr.heap.size wr wr.drew := ⟨rfl, rfl, rfl, Nat.le_refl _, fun _ _ => rfl⟩
        have hw0 : Below w.heap.size w wr.drew := ⟨HB.out.os, HB.out.tape, HB.out.output, HB.out.size, HB.out.block⟩
        generalize hV0 : wr.drew = V0 at *
        clear hV0
        iterate 10 (refine Lex.lex_take (v := ?_) rfl rfl (by rfl) (fun _ hS => ?_) ?_; rotate_left 1; (focus (have g0 := (hS.cell HC0.out.2).trans HC0.out.1; have g1 := (hS.cell HC1.out.2).trans HC1.out.1; have g2 := (hS.cell HC2.out.2).trans HC2.out.1; have g3 := (hS.cell HC3.out.2).trans HC3.out.1; have g4 := (hS.cell HD0.out.2).trans HD0.out.1; have g5 := (hS.cell HD1.out.2).trans HD1.out.1; have g6 := (hS.cell HD2.out.2).trans HD2.out.1; have g7 := (hS.cell HD3.out.2).trans HD3.out.1; have g8 := (hS.cell HX3.out.2).trans HX3.out.1; have g9 := (hS.cell HY3.out.2).trans HY3.out.1; clear hS; go_simp; with_reducible rfl)); simp only [List.setIfInBounds_toArray, List.set_cons_zero, List.set_cons_succ])
        refine Lex.lex_do rfl ?_
        have cc := HCT.out V0 hw0
        go_wp2_with fail
        refine cc.mono ?_
        rintro e V1 ⟨rfl, hn1⟩
        have hb1 := hb0.trans (hn1.mono hb0.size)
        have hw1 := hw0.trans (hn1.mono hw0.size)
        clear cc hb0 hw0
        clear hn1
        go_wp2_with fail
        refine Lex.lexQ_normal (fun _ => hb1) ?_
        refine Lex.lex_take (v := ?_) rfl rfl (by rfl) (fun _ hS => ?_) ?_; rotate_left 1; (focus (have g0 := (hS.cell HC0.out.2).trans HC0.out.1; have g1 := (hS.cell HC1.out.2).trans HC1.out.1; have g2 := (hS.cell HC2.out.2).trans HC2.out.1; have g3 := (hS.cell HC3.out.2).trans HC3.out.1; have g4 := (hS.cell HD0.out.2).trans HD0.out.1; have g5 := (hS.cell HD1.out.2).trans HD1.out.1; have g6 := (hS.cell HD2.out.2).trans HD2.out.1; have g7 := (hS.cell HD3.out.2).trans HD3.out.1; have g8 := (hS.cell HX3.out.2).trans HX3.out.1; have g9 := (hS.cell HY3.out.2).trans HY3.out.1; clear hS; go_simp; with_reducible rfl)); simp only [List.setIfInBounds_toArray, List.set_cons_zero, List.set_cons_succ]
        refine Lex.lex_nil ?_
        have HW1 := Lib.hid hw1
        go_wp2
        go_ret
        exact ⟨by rw [HRES.out]; rfl, HW1.out⟩
    · obtain rfl : m = j := by omega
      have HRES := Lib.hid (show res = true by rw [HSE2.out, Fo.same_iff]; exact Fo.ext_get ks ks2 (by rw [HM.out, HM2.out]) (fun j hj => HALL.out j (by rw [← HM.out]; exact hj)))
      clear HIH HG HAT HG2 HAT2
      go_wp2
      go_ret
      exact ⟨by rw [HRES.out]; rfl, HB.out⟩
theorem same_any : ∀ N, SameOk N
  | 0 => fun _ _ _ _ _ _ _ h => absurd h (Nat.not_lt_zero _)
  | N + 1 => same_step N (same_any N)
end Go.Proofs.YtobpacebpiabcaaGreatDoor

namespace Go.Proofs.YtobpacebpiabcaaGreatDoor
open Go.RowKit Go.Lib

/-- A decimal digit. -/
def dgt (u : Nat) : UInt8 := UInt8.ofNat (48 + u % 10)
theorem dec_step {u : Nat} (h : 10 ≤ u) : decDigits u = decDigits (u / 10) ++ [dgt u] := by rw [decDigits, dif_neg (by omega)]; rfl
theorem dec_one {u : Nat} (h : u < 10) : decDigits u = [dgt u] := by rw [decDigits, dif_pos h]; unfold dgt; rw [Nat.mod_eq_of_lt h]
theorem dec_len19 {u : Nat} (h : u ≤ 9223372036854775807) : (decDigits u).length ≤ 19 := dec_len 18 u (by omega)
theorem conv1 (W : World) (u : Nat) : (convert 22 9 (.slice (some ⟨W.heap.size, 0, none⟩) 1 1)).run Tryz.prog (W.alloc (.cells #[.int .u8 (48 + (u : Int) % 10)] 5)) = .ok (.string ⟨[dgt u].toArray⟩) (W.alloc (.cells #[.int .u8 (48 + (u : Int) % 10)] 5)) := by
  refine run_convert_bytes_back _ _ _ 5 ⟨W.heap.size, 0, none⟩ 1 [dgt u] (by kernel_rfl) (by kernel_rfl) (by kernel_rfl) (fun j hj => ?_)
  match j, hj with
  | 0, _ =>
    have h1 := heap_alloc_new W (.cells #[.int .u8 (48 + (u : Int) % 10)] 5)
    have h2 : ((UInt8.ofNat (48 + u % 10)).toNat : Int) = 48 + (u : Int) % 10 := by
      rw [show (UInt8.ofNat (48 + u % 10)).toNat = (48 + u % 10) % 256 from rfl]
      omega
    rw [show (Addr.mk W.heap.size 0 none).add 0 = ⟨W.heap.size, 0, none⟩ from rfl]
    simp only [World.cell?, h1, List.getElem_cons_zero]
    unfold dgt
    rw [h2]
    rfl
set_option maxRecDepth 100000 in
set_option maxHeartbeats 1600000 in
theorem number_any (u0 : Nat) (w : World) (h : u0 ≤ 9223372036854775807) : Calls Tryz.prog 73 #[.int .i64 (u0 : Int)] w (RetW (.string ⟨(decDigits u0).toArray⟩) w) := by
  have hc := fun W b => conv1 W b
  go_enter Tryz.func73, Tryz.ntmps73
  go_wp2_with fail
  go_loopw [0, 3] (fun v s wr => ∃ (u : Nat) (l : List UInt8), v = .int .i64 (u : Int) ∧ s = .string ⟨(dgt u :: l).toArray⟩ ∧ decDigits u ++ l = decDigits u0 ∧ u ≤ u0 ∧ Below w.heap.size w wr) (fun v _ _ => (intOf v).toNat)
  case atStart => exact ⟨u0, [], rfl, rfl, by simp, by omega, (Below.refl _ _).alloc (Nat.le_refl _) _⟩
  case round =>
    obtain ⟨u, l, rfl, rfl, hd, hu, hB⟩ := hrel
    have HB := Lib.hid hB
    have HD := Lib.hid hd
    clear hB hd
    by_cases h10 : 10 ≤ u
    · have d1 : (10 : Int) ≤ (u : Int) := by omega
      have hc2 := fun W => conv1 W (u / 10)
      simp only [Int.natCast_ediv, Int.cast_ofNat_Int] at hc2
      have hl : ¬ 9223372036854775807 < 1 + (l.length + 1) := by
        have h1 := congrArg List.length HD.out
        have h2 := dec_len19 h
        rw [List.length_append] at h1
        omega
      go_wp2_with fail
      go_roundw
      case rel => exact ⟨u / 10, dgt u :: l, by simp, congrArg _ (ByteArray.mk_append_mk [dgt (u / 10)] (dgt u :: l)), by rw [← HD.out, dec_step h10]; simp, by omega, HB.out.alloc HB.out.size _⟩
      case measure => simp [intOf]; omega
    · have d1 : ¬ (10 : Int) ≤ (u : Int) := by omega
      go_wp2
      go_ret
      have e2 := HD.out
      rw [dec_one (by omega)] at e2
      exact ⟨by rw [← e2]; rfl, HB.out⟩
end Go.Proofs.YtobpacebpiabcaaGreatDoor

namespace Go.Proofs.YtobpacebpiabcaaGreatDoor
open Go.RowKit Go.Lib

def w3 (j : Nat) : List UInt8 := [sp ++ wAnd ++ sp, sp ++ wOr ++ sp, sp ++ wSince ++ sp].getD j []
def k3 (j : Nat) : Int := ([4, 5, 9] : List Int).getD j 0
section
variable {m : Nat} {s : List UInt8}
end
/-! What is left is not longer. -/
end Go.Proofs.YtobpacebpiabcaaGreatDoor

namespace Go.Proofs.YtobpacebpiabcaaGreatDoor
open Go.RowKit Go.Lib
end Go.Proofs.YtobpacebpiabcaaGreatDoor

namespace Go.Proofs.YtobpacebpiabcaaGreatDoor
open Go.RowKit Go.Lib
end Go.Proofs.YtobpacebpiabcaaGreatDoor

namespace Go.Proofs.YtobpacebpiabcaaGreatDoor
open Go.RowKit Go.Lib
end Go.Proofs.YtobpacebpiabcaaGreatDoor

namespace Go.Proofs.YtobpacebpiabcaaGreatDoor
open Go.RowKit Go.Lib
end Go.Proofs.YtobpacebpiabcaaGreatDoor

namespace Go.Proofs.YtobpacebpiabcaaGreatDoor
open Go.RowKit Go.Lib
end Go.Proofs.YtobpacebpiabcaaGreatDoor

namespace Go.Proofs.YtobpacebpiabcaaGreatDoor
open Go.RowKit Go.Lib

def RTextOk (N : Nat) : Prop := ∀ (t : Tm) (S : Nat → Prop) (v : Value) (w : World), t.2.2.2.cnt < N → TmV S w v t → t.fo.shp = true → t.fo.cnt ≤ 5000 → Calls Tryz.prog 43 #[v] w (RetW (.string ⟨t.tx.toArray⟩) w)
set_option maxRecDepth 100000 in
set_option maxHeartbeats 12800000 in
theorem rtext_step (N : Nat) (IH : RTextOk N) : RTextOk (N + 1) := by
  intro t S v w hN hv hs hc
  obtain ⟨u, rfl, hu⟩ := hv
  obtain ⟨k, nm, n, ks⟩ := t
  obtain ⟨A, m, c, rfl, hm, hmc, hcm, hks⟩ := hu.open'
  dsimp only at *
  have hsh := hs
  rw [fo_shp, Bool.and_eq_true] at hsh
  have hcn : ks.cnt + 1 ≤ 5000 := by have := fo_cnt (k, nm, n, ks); dsimp only at this; omega
  have HIH := Lib.hid (show ∀ W j (_ : j < m) (_ : Below w.heap.size w W) u (_ : KidsV S w u (ks.get j).2.2.2), Calls Tryz.prog 43 #[.agg #[.int .i64 (ks.get j).1, .string ⟨(ks.get j).2.1.toArray⟩, .int .i64 (ks.get j).2.2.1, u]] W (RetW (.string ⟨(ks.get j).tx.toArray⟩) W) from
    fun W j hj hb u hu => IH (ks.get j) S _ W (by have := Fo.get_cnt ks j (by omega); omega) ⟨u, rfl, hu.below hb⟩ (Fo.shp_get ks j hsh.2 (by omega)) (by rw [fo_cnt]; have := Fo.get_cnt ks j (by omega); omega))
  have hlen : ∀ j, j < m → (ks.get j).tx.length ≤ 100000 := fun j hj => by
    have h1 := tx_len (Fo.shp_get ks j hsh.2 (by omega))
    have h2 := Fo.get_cnt ks j (by omega)
    rw [fo_cnt] at h1
    omega
  have hk := kids_is hsh.1
  rw [hm] at hk
  dsimp only at hk
  obtain ⟨W3, hW3⟩ : ∃ W3, W3 = w.alloc (.cells #[.int .i64 k, .string ⟨nm.toArray⟩, .int .i64 n, .slice A m c] 26) := ⟨_, rfl⟩
  have HBW := Lib.hid (show Below w.heap.size w W3 by rw [hW3]; exact (Below.refl _ _).alloc (Nat.le_refl _) _)
  have HX := Lib.hid (show Blk W3 w.heap.size #[.int .i64 k, .string ⟨nm.toArray⟩, .int .i64 n, .slice A m c] 26 by rw [hW3]; exact Blk.new _ _ _)
  have k0 := HX.out.cell 0
  have htx : Tm.tx (k, nm, n, ks) = nodeT k nm n ks.txts := rfl
  have HK1 := Lib.hid (fun h : 0 < m => hks.cells0 (by omega))
  have HKG := Lib.hid (fun b off (e : A = some ⟨b, off, none⟩) j (hj : j < ks.len) => KidsAt.get (b := b) (off := off) (i := j) (show KidsAt S w (some ⟨b, off, none⟩) ks by rw [← e]; exact hks) hj)
  have HT0 := Lib.hid (fun h : 0 < m => Fo.txts_get ks 0 (by omega))
  have HT1 := Lib.hid (fun h : 1 < m => Fo.txts_get ks 1 (by omega))
  have HII := Lib.hid (fun (h1 : 0 ≤ n) (h2 : n ≤ 1000000) => itoa_len h1 h2)
  have HLN := Lib.hid hlen
  have HM := Lib.hid hm
  have HS := Lib.hid (show sp = [32] from rfl)
  rw [htx]
  clear IH hks hu hs hsh hlen htx hm hN
  unfold maxLen at hcm
  rcases hk with ⟨rfl, rfl, rfl, rfl⟩ | ⟨rfl, rfl, hnm, rfl⟩ | ⟨hk, rfl, rfl, rfl⟩ | ⟨rfl, rfl, rfl, hn0, hn1⟩ | ⟨hk, rfl, rfl, rfl⟩
  · have HR := Lib.hid (show nodeT 1 [] 0 ks.txts = [116, 114, 117, 101] from rfl)
    clear HK1 HKG HT0 HT1
    go_enter Tryz.func43, Tryz.ntmps43
    go_upto_region 1 with fail
    rw [← hW3]
    clear hW3
    go_wp2
    go_ret
    exact ⟨by rw [HR.out]; rfl, HBW.out⟩
  · have HR := Lib.hid (show nodeT 2 nm 0 ks.txts = nm from rfl)
    have k1 := HX.out.cell 1
    clear HK1 HKG HT0 HT1
    go_enter Tryz.func43, Tryz.ntmps43
    go_upto_region 1 with fail
    rw [← hW3]
    clear hW3
    go_wp2
    go_ret
    exact ⟨by rw [HR.out]; rfl, HBW.out⟩
  · obtain ⟨b, off, u, rfl, hku, c0, c1, c2, c3⟩ := HK1.out (by omega)
    obtain ⟨A2, m2, c2', rfl, -⟩ := hku.open'
    have HT := Lib.hid (HT0.out (by omega))
    have blt : b < w.heap.size := World.block_lt_of_cell? w ⟨b, off, none⟩ c0
    have hl0 := HLN.out 0 (by omega)
    have cc := HIH.out W3 0 (by omega) HBW.out _ hku
    replace c0 := (HBW.out.cell (p := ⟨b, off, none⟩) blt).trans c0
    replace c1 := (HBW.out.cell (p := ⟨b, off + 1, none⟩) blt).trans c1
    replace c2 := (HBW.out.cell (p := ⟨b, off + 2, none⟩) blt).trans c2
    replace c3 := (HBW.out.cell (p := ⟨b, off + 3, none⟩) blt).trans c3
    have k3 := HX.out.cell 3
    clear HKG HIH hku HT0 HT1 HK1 HLN
    rcases hk with rfl | rfl | rfl | rfl
    · have HR := Lib.hid (show nodeT 3 [] 0 ks.txts = [110, 111, 116, 32] ++ (ks.get 0).tx by rw [← HT.out]; rfl)
      generalize (ks.get 0).tx = tx at *
      have z1 : ¬ 9223372036854775807 < 4 + tx.length := by omega
      rw [HR.out]
      clear HR HT
      generalize (ks.get 0).1 = ka at *
      generalize (ks.get 0).2.1 = kb at *
      generalize (ks.get 0).2.2.1 = kc at *
      go_enter Tryz.func43, Tryz.ntmps43
      go_upto_region 1 with fail
      rw [← hW3]
      clear hW3
      go_wp2_with fail
      refine cc.mono ?_
      rintro e W4 ⟨rfl, hb⟩
      have HB4 := Lib.hid (HBW.out.trans (hb.mono HBW.out.size))
      clear cc hb
      go_wp2_with fail
      go_ret
      exact ⟨rfl, HB4.out⟩
    · have HR := Lib.hid (show nodeT 6 [] 0 ks.txts = [112, 114, 101, 118, 32] ++ (ks.get 0).tx by rw [← HT.out]; rfl)
      generalize (ks.get 0).tx = tx at *
      have z1 : ¬ 9223372036854775807 < 5 + tx.length := by omega
      rw [HR.out]
      clear HR HT
      generalize (ks.get 0).1 = ka at *
      generalize (ks.get 0).2.1 = kb at *
      generalize (ks.get 0).2.2.1 = kc at *
      go_enter Tryz.func43, Tryz.ntmps43
      go_upto_region 1 with fail
      rw [← hW3]
      clear hW3
      go_wp2_with fail
      refine cc.mono ?_
      rintro e W4 ⟨rfl, hb⟩
      have HB4 := Lib.hid (HBW.out.trans (hb.mono HBW.out.size))
      clear cc hb
      go_wp2_with fail
      go_ret
      exact ⟨rfl, HB4.out⟩
    · have HR := Lib.hid (show nodeT 7 [] 0 ks.txts = [111, 110, 99, 101, 32] ++ (ks.get 0).tx by rw [← HT.out]; rfl)
      generalize (ks.get 0).tx = tx at *
      have z1 : ¬ 9223372036854775807 < 5 + tx.length := by omega
      rw [HR.out]
      clear HR HT
      generalize (ks.get 0).1 = ka at *
      generalize (ks.get 0).2.1 = kb at *
      generalize (ks.get 0).2.2.1 = kc at *
      go_enter Tryz.func43, Tryz.ntmps43
      go_upto_region 1 with fail
      rw [← hW3]
      clear hW3
      go_wp2_with fail
      refine cc.mono ?_
      rintro e W4 ⟨rfl, hb⟩
      have HB4 := Lib.hid (HBW.out.trans (hb.mono HBW.out.size))
      clear cc hb
      go_wp2_with fail
      go_ret
      exact ⟨rfl, HB4.out⟩
    · have HR := Lib.hid (show nodeT 8 [] 0 ks.txts = [97, 108, 119, 97, 121, 115, 32] ++ (ks.get 0).tx by rw [← HT.out]; rfl)
      generalize (ks.get 0).tx = tx at *
      have z1 : ¬ 9223372036854775807 < 7 + tx.length := by omega
      rw [HR.out]
      clear HR HT
      generalize (ks.get 0).1 = ka at *
      generalize (ks.get 0).2.1 = kb at *
      generalize (ks.get 0).2.2.1 = kc at *
      go_enter Tryz.func43, Tryz.ntmps43
      go_upto_region 1 with fail
      rw [← hW3]
      clear hW3
      go_wp2_with fail
      refine cc.mono ?_
      rintro e W4 ⟨rfl, hb⟩
      have HB4 := Lib.hid (HBW.out.trans (hb.mono HBW.out.size))
      clear cc hb
      go_wp2_with fail
      go_ret
      exact ⟨rfl, HB4.out⟩
  · obtain ⟨b, off, u, rfl, hku, c0, c1, c2, c3⟩ := HK1.out (by omega)
    obtain ⟨A2, m2, c2', rfl, -⟩ := hku.open'
    have HT := Lib.hid (HT0.out (by omega))
    have blt : b < w.heap.size := World.block_lt_of_cell? w ⟨b, off, none⟩ c0
    have hl0 := HLN.out 0 (by omega)
    have il := HII.out hn0 hn1
    have HCC := Lib.hid (fun W hb => HIH.out W 0 (by omega) hb _ hku)
    obtain ⟨u0, rfl⟩ := Int.eq_ofNat_of_zero_le hn0
    have hit : Lib.itoa ((u0 : Nat) : Int) = decDigits u0 := by unfold Lib.itoa; rw [if_neg (by omega)]; simp
    have HR := Lib.hid (show nodeT 10 [] ((u0 : Nat) : Int) ks.txts = 119 :: 105 :: 116 :: 104 :: 105 :: 110 :: 32 :: (decDigits u0 ++ (sp ++ (ks.get 0).tx)) by
      rw [← HT.out, ← hit]
      show wWithin ++ sp ++ Lib.itoa ((u0 : Nat) : Int) ++ sp ++ ks.txts.getD 0 [] = _
      simp [wWithin, sp])
    rw [hit] at il
    have HNU := Lib.hid (fun W => number_any u0 W (by omega))
    have HC0 := Lib.hid (And.intro ((HBW.out.cell (p := ⟨b, off, none⟩) blt).trans c0) (Nat.lt_of_lt_of_le blt HBW.out.size))
    have HC1 := Lib.hid (And.intro ((HBW.out.cell (p := ⟨b, off + 1, none⟩) blt).trans c1) (Nat.lt_of_lt_of_le blt HBW.out.size))
    have HC2 := Lib.hid (And.intro ((HBW.out.cell (p := ⟨b, off + 2, none⟩) blt).trans c2) (Nat.lt_of_lt_of_le blt HBW.out.size))
    have HC3 := Lib.hid (And.intro ((HBW.out.cell (p := ⟨b, off + 3, none⟩) blt).trans c3) (Nat.lt_of_lt_of_le blt HBW.out.size))
    have HN2 := Lib.hid (And.intro (HX.out.cell 2) HX.out.lt)
    have HN3 := Lib.hid (And.intro (HX.out.cell 3) HX.out.lt)
    rw [HR.out]
    clear c0 c1 c2 c3 HKG HIH hku HT0 HT1 HK1 HLN HII hit HR HT
    generalize decDigits u0 = ti at *
    generalize (ks.get 0).tx = tx at *
    generalize (ks.get 0).1 = ka at *
    generalize (ks.get 0).2.1 = kb at *
    generalize (ks.get 0).2.2.1 = kc at *
    have z1 : ¬ 9223372036854775807 < 7 + ti.length := by omega
    have z2 : ¬ 9223372036854775807 < 7 + ti.length + 1 := by omega
    have z3 : ¬ 9223372036854775807 < 7 + ti.length + 1 + tx.length := by omega
    go_enter Tryz.func43, Tryz.ntmps43
    go_upto_region 1 with fail
    rw [← hW3]
    clear hW3
    go_upto_region 15 with fail
    clear k0
    refine Lex.wp_region_lex (fun w' => Below W3.heap.size W3 w') (fun _ => true)
      [(0, true), (1, true), (5, true), (6, true), (7, true), (8, true), (2, false), (3, true), (4, true), (9, false), (10, true), (11, false)]
      (by kernel_rfl) (by kernel_rfl) (by kernel_rfl) (by kernel_rfl) ⟨rfl, rfl, rfl, Nat.le_refl _, fun _ _ => rfl⟩ ?_
    have hb0 : Below W3.heap.size W3 W3.drew := ⟨rfl, rfl, rfl, Nat.le_refl _, fun _ _ => rfl⟩
    have hw0 : Below w.heap.size w W3.drew := ⟨HBW.out.os, HBW.out.tape, HBW.out.output, HBW.out.size, HBW.out.block⟩
    generalize hV0 : W3.drew = V0 at *
    clear hV0
    iterate 6 (refine Lex.lex_take (v := ?_) rfl rfl (by rfl) (fun _ hS => ?_) ?_; rotate_left 1; (focus (have g0 := (hS.cell HN2.out.2).trans HN2.out.1; have g1 := (hS.cell HN3.out.2).trans HN3.out.1; have g2 := (hS.cell HC0.out.2).trans HC0.out.1; have g3 := (hS.cell HC1.out.2).trans HC1.out.1; have g4 := (hS.cell HC2.out.2).trans HC2.out.1; have g5 := (hS.cell HC3.out.2).trans HC3.out.1; clear hS; go_simp; with_reducible rfl)); simp only [List.setIfInBounds_toArray, List.set_cons_zero, List.set_cons_succ])
    refine Lex.lex_do rfl ?_
    have cc := HNU.out V0
    go_wp2_with fail
    refine cc.mono ?_
    rintro e V1 ⟨rfl, hn1⟩
    have hb1 := hb0.trans (hn1.mono hb0.size)
    have hw1 := hw0.trans (hn1.mono hw0.size)
    clear cc hb0 hw0
    clear hn1
    go_wp2_with fail
    refine Lex.lexQ_normal (fun _ => hb1) ?_
    iterate 2 (refine Lex.lex_take (v := ?_) rfl rfl (by rfl) (fun _ hS => ?_) ?_; rotate_left 1; (focus (have g0 := (hS.cell HN2.out.2).trans HN2.out.1; have g1 := (hS.cell HN3.out.2).trans HN3.out.1; have g2 := (hS.cell HC0.out.2).trans HC0.out.1; have g3 := (hS.cell HC1.out.2).trans HC1.out.1; have g4 := (hS.cell HC2.out.2).trans HC2.out.1; have g5 := (hS.cell HC3.out.2).trans HC3.out.1; clear hS; go_simp; with_reducible rfl)); simp only [List.setIfInBounds_toArray, List.set_cons_zero, List.set_cons_succ])
    refine Lex.lex_do rfl ?_
    have cc := HCC.out V1 hw1
    go_wp2_with fail
    refine cc.mono ?_
    rintro e V2 ⟨rfl, hn2⟩
    have hb2 := hb1.trans (hn2.mono hb1.size)
    have hw2 := hw1.trans (hn2.mono hw1.size)
    clear cc hb1 hw1
    clear hn2
    go_wp2_with fail
    refine Lex.lexQ_normal (fun _ => hb2) ?_
    refine Lex.lex_take (v := ?_) rfl rfl (by rfl) (fun _ hS => ?_) ?_; rotate_left 1; (focus (have g0 := (hS.cell HN2.out.2).trans HN2.out.1; have g1 := (hS.cell HN3.out.2).trans HN3.out.1; have g2 := (hS.cell HC0.out.2).trans HC0.out.1; have g3 := (hS.cell HC1.out.2).trans HC1.out.1; have g4 := (hS.cell HC2.out.2).trans HC2.out.1; have g5 := (hS.cell HC3.out.2).trans HC3.out.1; clear hS; go_simp; with_reducible rfl)); simp only [List.setIfInBounds_toArray, List.set_cons_zero, List.set_cons_succ]
    refine Lex.lex_do rfl ?_
    go_wp2_with fail
    refine Lex.lexQ_normal (fun _ => hb2) ?_
    refine Lex.lex_nil ?_
    have HF := Lib.hid hw2
    go_wp2
    go_ret
    refine ⟨?_, HF.out⟩
    rw [HS.out]
    simp
    apply ByteArray.ext
    simp
  · obtain ⟨b, off, u, rfl, hku, c0, c1, c2, c3⟩ := HK1.out (by omega)
    obtain ⟨A2, m2, c2', rfl, -⟩ := hku.open'
    obtain ⟨u', hku', d0, d1, d2, d3⟩ := HKG.out b off rfl 1 (by rw [HM.out]; omega)
    obtain ⟨A3, m3, c3', rfl, -⟩ := hku'.open'
    rw [Nat.one_mul] at d0 d1 d2 d3
    have HT := Lib.hid (HT0.out (by omega))
    have HT' := Lib.hid (HT1.out (by omega))
    have blt : b < w.heap.size := World.block_lt_of_cell? w ⟨b, off, none⟩ c0
    have hl0 := HLN.out 0 (by omega)
    have hl1 := HLN.out 1 (by omega)
    have HCC := Lib.hid (fun W hb => HIH.out W 0 (by omega) hb _ hku)
    have HCD := Lib.hid (fun W hb => HIH.out W 1 (by omega) hb _ hku')
    have HC0 := Lib.hid (And.intro ((HBW.out.cell (p := ⟨b, off, none⟩) blt).trans c0) (Nat.lt_of_lt_of_le blt HBW.out.size))
    have HC1 := Lib.hid (And.intro ((HBW.out.cell (p := ⟨b, off + 1, none⟩) blt).trans c1) (Nat.lt_of_lt_of_le blt HBW.out.size))
    have HC2 := Lib.hid (And.intro ((HBW.out.cell (p := ⟨b, off + 2, none⟩) blt).trans c2) (Nat.lt_of_lt_of_le blt HBW.out.size))
    have HC3 := Lib.hid (And.intro ((HBW.out.cell (p := ⟨b, off + 3, none⟩) blt).trans c3) (Nat.lt_of_lt_of_le blt HBW.out.size))
    have HD0 := Lib.hid (And.intro ((HBW.out.cell (p := ⟨b, off + 4, none⟩) blt).trans d0) (Nat.lt_of_lt_of_le blt HBW.out.size))
    have HD1 := Lib.hid (And.intro ((HBW.out.cell (p := ⟨b, off + 4 + 1, none⟩) blt).trans d1) (Nat.lt_of_lt_of_le blt HBW.out.size))
    have HD2 := Lib.hid (And.intro ((HBW.out.cell (p := ⟨b, off + 4 + 2, none⟩) blt).trans d2) (Nat.lt_of_lt_of_le blt HBW.out.size))
    have HD3 := Lib.hid (And.intro ((HBW.out.cell (p := ⟨b, off + 4 + 3, none⟩) blt).trans d3) (Nat.lt_of_lt_of_le blt HBW.out.size))
    have HN3 := Lib.hid (And.intro (HX.out.cell 3) HX.out.lt)
    clear c0 c1 c2 c3 d0 d1 d2 d3 HKG HIH hku hku' HT0 HT1 HK1 HLN HII
    have HR := Lib.hid (show ∀ kk wd, (wd, kk) = (wAnd, 4) ∨ (wd, kk) = (wOr, 5) ∨ (wd, kk) = (wSince, 9) → nodeT kk [] 0 ks.txts = [40] ++ (ks.get 0).tx ++ (sp ++ wd ++ sp) ++ (ks.get 1).tx ++ [41] from fun kk wd h => by
      rw [← HT.out, ← HT'.out]
      rcases h with e | e | e <;> (injection e with e1 e2; subst e1 e2; simp [nodeT]))
    rcases hk with rfl | rfl | rfl
    · have HR2 := Lib.hid (show nodeT 4 [] 0 ks.txts = [40] ++ (ks.get 0).tx ++ [32, 97, 110, 100, 32] ++ (ks.get 1).tx ++ [41] from HR.out 4 wAnd (by simp))
      rw [HR2.out]
      clear HR HR2 HT HT'
      generalize (ks.get 0).tx = tx at *
      generalize (ks.get 1).tx = ty at *
      generalize (ks.get 0).1 = ka at *
      generalize (ks.get 0).2.1 = kb at *
      generalize (ks.get 0).2.2.1 = kc at *
      generalize (ks.get 1).1 = la at *
      generalize (ks.get 1).2.1 = lb at *
      generalize (ks.get 1).2.2.1 = lc at *
      have z1 : ¬ 9223372036854775807 < 1 + tx.length := by omega
      have z2 : ¬ 9223372036854775807 < 1 + tx.length + 5 := by omega
      have z3 : ¬ 9223372036854775807 < 1 + tx.length + 5 + ty.length := by omega
      have z4 : ¬ 9223372036854775807 < 1 + tx.length + 5 + ty.length + 1 := by omega
      go_enter Tryz.func43, Tryz.ntmps43
      go_upto_region 1 with fail
      rw [← hW3]
      clear hW3
      go_upto_region 17 with fail
      clear k0
      refine Lex.wp_region_lex (fun w' => Below W3.heap.size W3 w') (fun _ => true)
        [(0, true), (1, true), (2, true), (3, true), (7, true), (8, true), (9, true), (10, true), (4, false), (5, true), (6, true), (11, false), (12, true), (13, true), (14, false)]
        (by kernel_rfl) (by kernel_rfl) (by kernel_rfl) (by kernel_rfl) ⟨rfl, rfl, rfl, Nat.le_refl _, fun _ _ => rfl⟩ ?_
      have hb0 : Below W3.heap.size W3 W3.drew := ⟨rfl, rfl, rfl, Nat.le_refl _, fun _ _ => rfl⟩
      have hw0 : Below w.heap.size w W3.drew := ⟨HBW.out.os, HBW.out.tape, HBW.out.output, HBW.out.size, HBW.out.block⟩
      generalize hV0 : W3.drew = V0 at *
      clear hV0
      iterate 8 (refine Lex.lex_take (v := ?_) rfl rfl (by rfl) (fun _ hS => ?_) ?_; rotate_left 1; (focus (have g0 := (hS.cell HN3.out.2).trans HN3.out.1; have g1 := (hS.cell HC0.out.2).trans HC0.out.1; have g2 := (hS.cell HC1.out.2).trans HC1.out.1; have g3 := (hS.cell HC2.out.2).trans HC2.out.1; have g4 := (hS.cell HC3.out.2).trans HC3.out.1; have g5 := (hS.cell HD0.out.2).trans HD0.out.1; have g6 := (hS.cell HD1.out.2).trans HD1.out.1; have g7 := (hS.cell HD2.out.2).trans HD2.out.1; have g8 := (hS.cell HD3.out.2).trans HD3.out.1; clear hS; go_simp; with_reducible rfl)); simp only [List.setIfInBounds_toArray, List.set_cons_zero, List.set_cons_succ])
      refine Lex.lex_do rfl ?_
      have cc := HCC.out V0 hw0
      go_wp2_with fail
      refine cc.mono ?_
      rintro e V1 ⟨rfl, hn1⟩
      have hb1 := hb0.trans (hn1.mono hb0.size)
      have hw1 := hw0.trans (hn1.mono hw0.size)
      clear cc hb0 hw0
      clear hn1
      go_wp2_with fail
      refine Lex.lexQ_normal (fun _ => hb1) ?_
      iterate 2 (refine Lex.lex_take (v := ?_) rfl rfl (by rfl) (fun _ hS => ?_) ?_; rotate_left 1; (focus (have g0 := (hS.cell HN3.out.2).trans HN3.out.1; have g1 := (hS.cell HC0.out.2).trans HC0.out.1; have g2 := (hS.cell HC1.out.2).trans HC1.out.1; have g3 := (hS.cell HC2.out.2).trans HC2.out.1; have g4 := (hS.cell HC3.out.2).trans HC3.out.1; have g5 := (hS.cell HD0.out.2).trans HD0.out.1; have g6 := (hS.cell HD1.out.2).trans HD1.out.1; have g7 := (hS.cell HD2.out.2).trans HD2.out.1; have g8 := (hS.cell HD3.out.2).trans HD3.out.1; clear hS; go_simp; with_reducible rfl)); simp only [List.setIfInBounds_toArray, List.set_cons_zero, List.set_cons_succ])
      refine Lex.lex_do rfl ?_
      have cc := HCD.out V1 hw1
      go_wp2_with fail
      refine cc.mono ?_
      rintro e V2 ⟨rfl, hn2⟩
      have hb2 := hb1.trans (hn2.mono hb1.size)
      have hw2 := hw1.trans (hn2.mono hw1.size)
      clear cc hb1 hw1
      clear hn2
      go_wp2_with fail
      refine Lex.lexQ_normal (fun _ => hb2) ?_
      iterate 2 (refine Lex.lex_take (v := ?_) rfl rfl (by rfl) (fun _ hS => ?_) ?_; rotate_left 1; (focus (have g0 := (hS.cell HN3.out.2).trans HN3.out.1; have g1 := (hS.cell HC0.out.2).trans HC0.out.1; have g2 := (hS.cell HC1.out.2).trans HC1.out.1; have g3 := (hS.cell HC2.out.2).trans HC2.out.1; have g4 := (hS.cell HC3.out.2).trans HC3.out.1; have g5 := (hS.cell HD0.out.2).trans HD0.out.1; have g6 := (hS.cell HD1.out.2).trans HD1.out.1; have g7 := (hS.cell HD2.out.2).trans HD2.out.1; have g8 := (hS.cell HD3.out.2).trans HD3.out.1; clear hS; go_simp; with_reducible rfl)); simp only [List.setIfInBounds_toArray, List.set_cons_zero, List.set_cons_succ])
      refine Lex.lex_do rfl ?_
      go_wp2_with fail
      refine Lex.lexQ_normal (fun _ => hb2) ?_
      refine Lex.lex_nil ?_
      have HF := Lib.hid hw2
      go_wp2
      go_ret
      refine ⟨?_, HF.out⟩
      simp
      apply ByteArray.ext
      simp
    · have HR2 := Lib.hid (show nodeT 5 [] 0 ks.txts = [40] ++ (ks.get 0).tx ++ [32, 111, 114, 32] ++ (ks.get 1).tx ++ [41] from HR.out 5 wOr (by simp))
      rw [HR2.out]
      clear HR HR2 HT HT'
      generalize (ks.get 0).tx = tx at *
      generalize (ks.get 1).tx = ty at *
      generalize (ks.get 0).1 = ka at *
      generalize (ks.get 0).2.1 = kb at *
      generalize (ks.get 0).2.2.1 = kc at *
      generalize (ks.get 1).1 = la at *
      generalize (ks.get 1).2.1 = lb at *
      generalize (ks.get 1).2.2.1 = lc at *
      have z1 : ¬ 9223372036854775807 < 1 + tx.length := by omega
      have z2 : ¬ 9223372036854775807 < 1 + tx.length + 4 := by omega
      have z3 : ¬ 9223372036854775807 < 1 + tx.length + 4 + ty.length := by omega
      have z4 : ¬ 9223372036854775807 < 1 + tx.length + 4 + ty.length + 1 := by omega
      go_enter Tryz.func43, Tryz.ntmps43
      go_upto_region 1 with fail
      rw [← hW3]
      clear hW3
      go_upto_region 19 with fail
      clear k0
      refine Lex.wp_region_lex (fun w' => Below W3.heap.size W3 w') (fun _ => true)
        [(0, true), (1, true), (2, true), (3, true), (7, true), (8, true), (9, true), (10, true), (4, false), (5, true), (6, true), (11, false), (12, true), (13, true), (14, false)]
        (by kernel_rfl) (by kernel_rfl) (by kernel_rfl) (by kernel_rfl) ⟨rfl, rfl, rfl, Nat.le_refl _, fun _ _ => rfl⟩ ?_
      have hb0 : Below W3.heap.size W3 W3.drew := ⟨rfl, rfl, rfl, Nat.le_refl _, fun _ _ => rfl⟩
      have hw0 : Below w.heap.size w W3.drew := ⟨HBW.out.os, HBW.out.tape, HBW.out.output, HBW.out.size, HBW.out.block⟩
      generalize hV0 : W3.drew = V0 at *
      clear hV0
      iterate 8 (refine Lex.lex_take (v := ?_) rfl rfl (by rfl) (fun _ hS => ?_) ?_; rotate_left 1; (focus (have g0 := (hS.cell HN3.out.2).trans HN3.out.1; have g1 := (hS.cell HC0.out.2).trans HC0.out.1; have g2 := (hS.cell HC1.out.2).trans HC1.out.1; have g3 := (hS.cell HC2.out.2).trans HC2.out.1; have g4 := (hS.cell HC3.out.2).trans HC3.out.1; have g5 := (hS.cell HD0.out.2).trans HD0.out.1; have g6 := (hS.cell HD1.out.2).trans HD1.out.1; have g7 := (hS.cell HD2.out.2).trans HD2.out.1; have g8 := (hS.cell HD3.out.2).trans HD3.out.1; clear hS; go_simp; with_reducible rfl)); simp only [List.setIfInBounds_toArray, List.set_cons_zero, List.set_cons_succ])
      refine Lex.lex_do rfl ?_
      have cc := HCC.out V0 hw0
      go_wp2_with fail
      refine cc.mono ?_
      rintro e V1 ⟨rfl, hn1⟩
      have hb1 := hb0.trans (hn1.mono hb0.size)
      have hw1 := hw0.trans (hn1.mono hw0.size)
      clear cc hb0 hw0
      clear hn1
      go_wp2_with fail
      refine Lex.lexQ_normal (fun _ => hb1) ?_
      iterate 2 (refine Lex.lex_take (v := ?_) rfl rfl (by rfl) (fun _ hS => ?_) ?_; rotate_left 1; (focus (have g0 := (hS.cell HN3.out.2).trans HN3.out.1; have g1 := (hS.cell HC0.out.2).trans HC0.out.1; have g2 := (hS.cell HC1.out.2).trans HC1.out.1; have g3 := (hS.cell HC2.out.2).trans HC2.out.1; have g4 := (hS.cell HC3.out.2).trans HC3.out.1; have g5 := (hS.cell HD0.out.2).trans HD0.out.1; have g6 := (hS.cell HD1.out.2).trans HD1.out.1; have g7 := (hS.cell HD2.out.2).trans HD2.out.1; have g8 := (hS.cell HD3.out.2).trans HD3.out.1; clear hS; go_simp; with_reducible rfl)); simp only [List.setIfInBounds_toArray, List.set_cons_zero, List.set_cons_succ])
      refine Lex.lex_do rfl ?_
      have cc := HCD.out V1 hw1
      go_wp2_with fail
      refine cc.mono ?_
      rintro e V2 ⟨rfl, hn2⟩
      have hb2 := hb1.trans (hn2.mono hb1.size)
      have hw2 := hw1.trans (hn2.mono hw1.size)
      clear cc hb1 hw1
      clear hn2
      go_wp2_with fail
      refine Lex.lexQ_normal (fun _ => hb2) ?_
      iterate 2 (refine Lex.lex_take (v := ?_) rfl rfl (by rfl) (fun _ hS => ?_) ?_; rotate_left 1; (focus (have g0 := (hS.cell HN3.out.2).trans HN3.out.1; have g1 := (hS.cell HC0.out.2).trans HC0.out.1; have g2 := (hS.cell HC1.out.2).trans HC1.out.1; have g3 := (hS.cell HC2.out.2).trans HC2.out.1; have g4 := (hS.cell HC3.out.2).trans HC3.out.1; have g5 := (hS.cell HD0.out.2).trans HD0.out.1; have g6 := (hS.cell HD1.out.2).trans HD1.out.1; have g7 := (hS.cell HD2.out.2).trans HD2.out.1; have g8 := (hS.cell HD3.out.2).trans HD3.out.1; clear hS; go_simp; with_reducible rfl)); simp only [List.setIfInBounds_toArray, List.set_cons_zero, List.set_cons_succ])
      refine Lex.lex_do rfl ?_
      go_wp2_with fail
      refine Lex.lexQ_normal (fun _ => hb2) ?_
      refine Lex.lex_nil ?_
      have HF := Lib.hid hw2
      go_wp2
      go_ret
      refine ⟨?_, HF.out⟩
      simp
      apply ByteArray.ext
      simp
    · have HR2 := Lib.hid (show nodeT 9 [] 0 ks.txts = [40] ++ (ks.get 0).tx ++ [32, 115, 105, 110, 99, 101, 32] ++ (ks.get 1).tx ++ [41] from HR.out 9 wSince (by simp))
      rw [HR2.out]
      clear HR HR2 HT HT'
      generalize (ks.get 0).tx = tx at *
      generalize (ks.get 1).tx = ty at *
      generalize (ks.get 0).1 = ka at *
      generalize (ks.get 0).2.1 = kb at *
      generalize (ks.get 0).2.2.1 = kc at *
      generalize (ks.get 1).1 = la at *
      generalize (ks.get 1).2.1 = lb at *
      generalize (ks.get 1).2.2.1 = lc at *
      have z1 : ¬ 9223372036854775807 < 1 + tx.length := by omega
      have z2 : ¬ 9223372036854775807 < 1 + tx.length + 7 := by omega
      have z3 : ¬ 9223372036854775807 < 1 + tx.length + 7 + ty.length := by omega
      have z4 : ¬ 9223372036854775807 < 1 + tx.length + 7 + ty.length + 1 := by omega
      go_enter Tryz.func43, Tryz.ntmps43
      go_upto_region 1 with fail
      rw [← hW3]
      clear hW3
      go_upto_region 20 with fail
      clear k0
      refine Lex.wp_region_lex (fun w' => Below W3.heap.size W3 w') (fun _ => true)
        [(0, true), (1, true), (2, true), (3, true), (7, true), (8, true), (9, true), (10, true), (4, false), (5, true), (6, true), (11, false), (12, true), (13, true), (14, false)]
        (by kernel_rfl) (by kernel_rfl) (by kernel_rfl) (by kernel_rfl) ⟨rfl, rfl, rfl, Nat.le_refl _, fun _ _ => rfl⟩ ?_
      have hb0 : Below W3.heap.size W3 W3.drew := ⟨rfl, rfl, rfl, Nat.le_refl _, fun _ _ => rfl⟩
      have hw0 : Below w.heap.size w W3.drew := ⟨HBW.out.os, HBW.out.tape, HBW.out.output, HBW.out.size, HBW.out.block⟩
      generalize hV0 : W3.drew = V0 at *
      clear hV0
      iterate 8 (refine Lex.lex_take (v := ?_) rfl rfl (by rfl) (fun _ hS => ?_) ?_; rotate_left 1; (focus (have g0 := (hS.cell HN3.out.2).trans HN3.out.1; have g1 := (hS.cell HC0.out.2).trans HC0.out.1; have g2 := (hS.cell HC1.out.2).trans HC1.out.1; have g3 := (hS.cell HC2.out.2).trans HC2.out.1; have g4 := (hS.cell HC3.out.2).trans HC3.out.1; have g5 := (hS.cell HD0.out.2).trans HD0.out.1; have g6 := (hS.cell HD1.out.2).trans HD1.out.1; have g7 := (hS.cell HD2.out.2).trans HD2.out.1; have g8 := (hS.cell HD3.out.2).trans HD3.out.1; clear hS; go_simp; with_reducible rfl)); simp only [List.setIfInBounds_toArray, List.set_cons_zero, List.set_cons_succ])
      refine Lex.lex_do rfl ?_
      have cc := HCC.out V0 hw0
      go_wp2_with fail
      refine cc.mono ?_
      rintro e V1 ⟨rfl, hn1⟩
      have hb1 := hb0.trans (hn1.mono hb0.size)
      have hw1 := hw0.trans (hn1.mono hw0.size)
      clear cc hb0 hw0
      clear hn1
      go_wp2_with fail
      refine Lex.lexQ_normal (fun _ => hb1) ?_
      iterate 2 (refine Lex.lex_take (v := ?_) rfl rfl (by rfl) (fun _ hS => ?_) ?_; rotate_left 1; (focus (have g0 := (hS.cell HN3.out.2).trans HN3.out.1; have g1 := (hS.cell HC0.out.2).trans HC0.out.1; have g2 := (hS.cell HC1.out.2).trans HC1.out.1; have g3 := (hS.cell HC2.out.2).trans HC2.out.1; have g4 := (hS.cell HC3.out.2).trans HC3.out.1; have g5 := (hS.cell HD0.out.2).trans HD0.out.1; have g6 := (hS.cell HD1.out.2).trans HD1.out.1; have g7 := (hS.cell HD2.out.2).trans HD2.out.1; have g8 := (hS.cell HD3.out.2).trans HD3.out.1; clear hS; go_simp; with_reducible rfl)); simp only [List.setIfInBounds_toArray, List.set_cons_zero, List.set_cons_succ])
      refine Lex.lex_do rfl ?_
      have cc := HCD.out V1 hw1
      go_wp2_with fail
      refine cc.mono ?_
      rintro e V2 ⟨rfl, hn2⟩
      have hb2 := hb1.trans (hn2.mono hb1.size)
      have hw2 := hw1.trans (hn2.mono hw1.size)
      clear cc hb1 hw1
      clear hn2
      go_wp2_with fail
      refine Lex.lexQ_normal (fun _ => hb2) ?_
      iterate 2 (refine Lex.lex_take (v := ?_) rfl rfl (by rfl) (fun _ hS => ?_) ?_; rotate_left 1; (focus (have g0 := (hS.cell HN3.out.2).trans HN3.out.1; have g1 := (hS.cell HC0.out.2).trans HC0.out.1; have g2 := (hS.cell HC1.out.2).trans HC1.out.1; have g3 := (hS.cell HC2.out.2).trans HC2.out.1; have g4 := (hS.cell HC3.out.2).trans HC3.out.1; have g5 := (hS.cell HD0.out.2).trans HD0.out.1; have g6 := (hS.cell HD1.out.2).trans HD1.out.1; have g7 := (hS.cell HD2.out.2).trans HD2.out.1; have g8 := (hS.cell HD3.out.2).trans HD3.out.1; clear hS; go_simp; with_reducible rfl)); simp only [List.setIfInBounds_toArray, List.set_cons_zero, List.set_cons_succ])
      refine Lex.lex_do rfl ?_
      go_wp2_with fail
      refine Lex.lexQ_normal (fun _ => hb2) ?_
      refine Lex.lex_nil ?_
      have HF := Lib.hid hw2
      go_wp2
      go_ret
      refine ⟨?_, HF.out⟩
      simp
      apply ByteArray.ext
      simp
theorem rtext_any : ∀ (N : Nat), RTextOk N
  | 0 => fun _ _ _ _ h => absurd h (Nat.not_lt_zero _)
  | N + 1 => rtext_step N (rtext_any N)
end Go.Proofs.YtobpacebpiabcaaGreatDoor

namespace Go.Proofs.YtobpacebpiabcaaGreatDoor
open Go.RowKit Go.Lib

set_option maxHeartbeats 6400000 in
/-- terms.Text of a valid term. -/
theorem termstext_any {S : Nat → Prop} {w : World} {v : Value} {t : Tm} {B0 : Nat} (h : TmV S w v t) (ho : t.ok = true) (hL : LibOk B0 w) : Calls Tryz.prog 13 #[v] w (RetW (.tuple #[.string ⟨t.tx.toArray⟩, .int .i64 0]) w) := by
  obtain ⟨ku, rfl, hku⟩ := h
  obtain ⟨A, m, c, rfl, -⟩ := hku.open'
  have hsh : t.fo.shp = true := by have h := Tm.ok_shp ho; rw [fo_shp, h.1, h.2.1]; rfl
  have hf : t.fo.fit := Fo.shp_fit _ hsh
  have hcn : t.fo.cnt ≤ 5000 := by have h := (Tm.ok_shp ho).2.2; rw [fo_cnt]; omega
  obtain ⟨W3, hW3⟩ : ∃ W3, W3 = w.alloc (.cells #[.int .i64 t.1, .string ⟨t.2.1.toArray⟩, .int .i64 t.2.2.1, .slice A m c] 26) := ⟨_, rfl⟩
  have hB : Below w.heap.size w W3 := by rw [hW3]; exact (Below.refl _ _).alloc (Nat.le_refl _) _
  have HB := Lib.hid hB
  have HX := Lib.hid (show Blk W3 w.heap.size #[.int .i64 t.1, .string ⟨t.2.1.toArray⟩, .int .i64 t.2.2.1, .slice A m c] 26 by rw [hW3]; exact Blk.new _ _ _)
  have cv := valid_one (_w := w) (hku.below hB) hf 26
  rw [ho] at cv
  have HTX := Lib.hid (show ∀ W, Below w.heap.size w W → Calls Tryz.prog 50 #[.agg #[.int .i64 t.1, .string ⟨t.2.1.toArray⟩, .int .i64 t.2.2.1, .slice A m c]] W (RetW (.string ⟨t.tx.toArray⟩) W) from fun W hb => text_any _ t S _ W B0 (Nat.lt_succ_self _) ⟨_, rfl, hku.below hb⟩ hsh hcn (hL.below hb))
  have HPO := Lib.hid (show ∀ w', Below w.heap.size w w' → RetW (.tuple #[.string ⟨t.tx.toArray⟩, .int .i64 0]) w (.returned (.tuple #[.string ⟨t.tx.toArray⟩, .int .i64 0])) w' from fun w' h => ⟨rfl, h⟩)
  generalize hPost : RetW (.tuple #[.string ⟨t.tx.toArray⟩, .int .i64 0]) w = Post at *
  generalize t.tx = tx at *
  clear hPost hku hf hB ho hsh hcn hL
  generalize t.1 = kk at *
  generalize t.2.1 = knm at *
  generalize t.2.2.1 = kn at *
  have k0 := HX.out.cell 0
  have k1 := HX.out.cell 1
  have k2 := HX.out.cell 2
  have k3 := HX.out.cell 3
  have HW4 := Lib.hid (show Below w.heap.size w (W3.alloc (.cells #[.int .i64 kk, .string ⟨knm.toArray⟩, .int .i64 kn, .slice A m c] 26)) from HB.out.alloc HB.out.size _)
  have HR4 := Lib.hid (show Below W3.heap.size W3 (W3.alloc (.cells #[.int .i64 kk, .string ⟨knm.toArray⟩, .int .i64 kn, .slice A m c] 26)) from (Below.refl _ _).alloc (Nat.le_refl _) _)
  go_enter Tryz.func13, Tryz.ntmps13
  go_upto_region 1 with fail
  rw [← hW3]
  clear hW3
  go_wp2_with fail
  refine cv.mono ?_
  rintro e W5 ⟨rfl, hn5⟩
  have HW5 := Lib.hid (HW4.out.trans (hn5.mono HW4.out.size))
  have hx5 := HX.out.below (HR4.out.trans (hn5.mono HR4.out.size))
  have ct := HTX.out W5 HW5.out
  clear cv hn5 k0 k1 k2 k3
  have k0 := hx5.cell 0
  have k1 := hx5.cell 1
  have k2 := hx5.cell 2
  have k3 := hx5.cell 3
  clear hx5
  go_wp2_with fail
  refine ct.mono ?_
  rintro e W6 ⟨rfl, hn6⟩
  have HW6 := Lib.hid (HW5.out.trans (hn6.mono HW5.out.size))
  clear ct hn6
  go_wp2
  exact HPO.out _ HW6.out

/-! What the document's reader reads is not larger than the text. -/
end Go.Proofs.YtobpacebpiabcaaGreatDoor
