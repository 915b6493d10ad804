/- ref's Same: its contract (printed by expand.py). -/
import Derived.Test.YtobpacebpiabcaaDoorPkAd
import Derived.Test.YtobpacebpiabcaaDoorBl
import Derived.Test.YtobpacebpiabcaaDoorPkBo
namespace Go.Proofs.YtobpacebpiabcaaDoor
open Go.RowKit Go.Lib

theorem Fo.ext_get : ∀ (f g : Fo), f.len = g.len → (∀ j, j < f.len → f.get j = g.get j) → f = g
  | .nil, .nil, _, _ => rfl
  | .nil, .cons _ _ _ _ _, h, _ => by simp [Fo.len] at h
  | .cons _ _ _ _ _, .nil, h, _ => by simp [Fo.len] at h
  | .cons k nm n ks r, .cons k2 nm2 n2 ks2 r2, h, hg => by
    have h0 : (k, nm, n, ks) = (k2, nm2, n2, ks2) := hg 0 (by simp [Fo.len])
    have hr := ext_get r r2 (by simpa [Fo.len] using h) (fun j hj => hg (j + 1) (by simpa [Fo.len] using hj))
    injection h0 with a1 a2
    injection a2 with a2 a3
    injection a3 with a3 a4
    subst a1 a2 a3 a4 hr
    rfl
theorem same_false {f g : Fo} (h : f ≠ g) : Fo.same f g = false := by
  cases hs : Fo.same f g with
  | false => rfl
  | true => exact absurd ((Fo.same_iff f g).1 hs) h
theorem tmsame_eq (k : Int) (nm : List UInt8) (n : Int) (ks : Fo) (k2 : Int) (nm2 : List UInt8) (n2 : Int) (ks2 : Fo) : Tm.same (k, nm, n, ks) (k2, nm2, n2, ks2) = (decide (k = k2) && decide (nm = nm2) && decide (n = n2) && Fo.same ks ks2) := by
  unfold Tm.same Tm.fo
  simp [Fo.same]
def SameOk (N : Nat) : Prop := ∀ (t u : Tm) (S T : Nat → Prop) (v v' : Value) (w : World), t.2.2.2.cnt < N → TmV S w v t → TmV T w v' u → Calls Tryd.prog 27 #[v, v'] w (RetW (.bool (t.same u)) w)
set_option maxRecDepth 100000 in
set_option maxHeartbeats 6400000 in
theorem same_step (N : Nat) (IH : SameOk N) : SameOk (N + 1) := by
  intro t u S T v v' w hcnt hv hv'
  obtain ⟨x, rfl, hx⟩ := hv
  obtain ⟨y, rfl, hy⟩ := hv'
  obtain ⟨k, nm, n, ks⟩ := t
  obtain ⟨k2, nm2, n2, ks2⟩ := u
  obtain ⟨A, m, c, rfl, hm, hmc, hcm, hks⟩ := hx.open'
  obtain ⟨A2, m2, c2, rfl, hm2, hmc2, hcm2, hks2⟩ := hy.open'
  dsimp only at *
  have HSE := Lib.hid (tmsame_eq k nm n ks k2 nm2 n2 ks2)
  generalize Tm.same (k, nm, n, ks) (k2, nm2, n2, ks2) = res at *
  have HIH := Lib.hid (show ∀ W j (_ : j < m) (_ : j < m2) (_ : Below w.heap.size w W) u u' (_ : KidsV S w u (ks.get j).2.2.2) (_ : KidsV T w u' (ks2.get j).2.2.2), Calls Tryd.prog 27 #[.agg #[.int .i64 (ks.get j).1, .string ⟨(ks.get j).2.1.toArray⟩, .int .i64 (ks.get j).2.2.1, u], .agg #[.int .i64 (ks2.get j).1, .string ⟨(ks2.get j).2.1.toArray⟩, .int .i64 (ks2.get j).2.2.1, u']] W (RetW (.bool ((ks.get j).same (ks2.get j))) W) from
    fun W j hj hj2 hb u u' hu hu' => IH (ks.get j) (ks2.get j) S T _ _ W (by have := Fo.get_cnt ks j (by omega); omega) ⟨u, rfl, hu.below hb⟩ ⟨u', rfl, hu'.below hb⟩)
  have HG := Lib.hid (fun b off (e : A = some ⟨b, off, none⟩) j (hj : j < ks.len) => KidsAt.get (b := b) (off := off) (i := j) (show KidsAt S w (some ⟨b, off, none⟩) ks by rw [← e]; exact hks) hj)
  have HAT := Lib.hid (fun (h : 0 < ks.len) => hks.at h)
  have HG2 := Lib.hid (fun b off (e : A2 = some ⟨b, off, none⟩) j (hj : j < ks2.len) => KidsAt.get (b := b) (off := off) (i := j) (show KidsAt T w (some ⟨b, off, none⟩) ks2 by rw [← e]; exact hks2) hj)
  have HAT2 := Lib.hid (fun (h : 0 < ks2.len) => hks2.at h)
  have HM := Lib.hid hm
  have HM2 := Lib.hid hm2
  unfold maxLen at hcm hcm2
  obtain ⟨W3, hW3⟩ : ∃ W3, W3 = w.alloc (.cells #[.int .i64 k, .string ⟨nm.toArray⟩, .int .i64 n, .slice A m c] 26) := ⟨_, rfl⟩
  have HBW := Lib.hid (show Below w.heap.size w W3 by rw [hW3]; exact (Below.refl _ _).alloc (Nat.le_refl _) _)
  have HX := Lib.hid (show Blk W3 w.heap.size #[.int .i64 k, .string ⟨nm.toArray⟩, .int .i64 n, .slice A m c] 26 by rw [hW3]; exact Blk.new _ _ _)
  obtain ⟨W4, hW4⟩ : ∃ W4, W4 = W3.alloc (.cells #[.int .i64 k2, .string ⟨nm2.toArray⟩, .int .i64 n2, .slice A2 m2 c2] 26) := ⟨_, rfl⟩
  have HBW4 := Lib.hid (show Below w.heap.size w W4 by rw [hW4]; exact HBW.out.alloc HBW.out.size _)
  have HX4 := Lib.hid (show Blk W4 w.heap.size #[.int .i64 k, .string ⟨nm.toArray⟩, .int .i64 n, .slice A m c] 26 by rw [hW4]; exact HX.out.below ((Below.refl _ _).alloc (Nat.le_refl _) _))
  have HY4 := Lib.hid (show Blk W4 W3.heap.size #[.int .i64 k2, .string ⟨nm2.toArray⟩, .int .i64 n2, .slice A2 m2 c2] 26 by rw [hW4]; exact Blk.new _ _ _)
  obtain ⟨H, hH⟩ : ∃ H, w.heap.size + 1 = H := ⟨_, rfl⟩
  have HHX := Lib.hid (show w.heap.size < H by omega)
  rw [show W3.heap.size = H by rw [← hH, hW3]; simp] at HY4
  clear IH hks hks2 hx hy hm hm2 hcnt HX HBW
  by_cases e1 : k = k2
  case neg =>
    have d1 : (k == k2) = false := beq_eq_false_iff_ne.2 e1
    have d1' : (k != k2) = true := bne_iff_ne.2 e1
    have HRES := Lib.hid (show res = false by rw [HSE.out, decide_eq_false e1]; simp)
    clear HIH HG HAT HG2 HAT2
    go_enter Tryd.func27, Tryd.ntmps27
    go_upto_region 1 with fail
    rw [← hW3, ← hW4]
    clear hW3 hW4 hH
    have x0 := HX4.out.cell 0
    have x1 := HX4.out.cell 1
    have x2 := HX4.out.cell 2
    have x3 := HX4.out.cell 3
    have y0 := HY4.out.cell 0
    have y1 := HY4.out.cell 1
    have y2 := HY4.out.cell 2
    have y3 := HY4.out.cell 3
    go_wp2
    go_ret
    exact ⟨by rw [HRES.out]; rfl, HBW4.out⟩
  subst e1
  by_cases e2 : nm = nm2
  case neg =>
    have d2 : (nm == nm2) = false := beq_eq_false_iff_ne.2 e2
    have d2' : (nm != nm2) = true := bne_iff_ne.2 e2
    have HRES := Lib.hid (show res = false by rw [HSE.out, decide_eq_false e2]; simp)
    clear HIH HG HAT HG2 HAT2
    go_enter Tryd.func27, Tryd.ntmps27
    go_upto_region 1 with fail
    rw [← hW3, ← hW4]
    clear hW3 hW4 hH
    have x0 := HX4.out.cell 0
    have x1 := HX4.out.cell 1
    have x2 := HX4.out.cell 2
    have x3 := HX4.out.cell 3
    have y0 := HY4.out.cell 0
    have y1 := HY4.out.cell 1
    have y2 := HY4.out.cell 2
    have y3 := HY4.out.cell 3
    go_wp2
    go_ret
    exact ⟨by rw [HRES.out]; rfl, HBW4.out⟩
  subst e2
  by_cases e3 : n = n2
  case neg =>
    have d3 : (n == n2) = false := beq_eq_false_iff_ne.2 e3
    have d3' : (n != n2) = true := bne_iff_ne.2 e3
    have HRES := Lib.hid (show res = false by rw [HSE.out, decide_eq_false e3]; simp)
    clear HIH HG HAT HG2 HAT2
    go_enter Tryd.func27, Tryd.ntmps27
    go_upto_region 1 with fail
    rw [← hW3, ← hW4]
    clear hW3 hW4 hH
    have x0 := HX4.out.cell 0
    have x1 := HX4.out.cell 1
    have x2 := HX4.out.cell 2
    have x3 := HX4.out.cell 3
    have y0 := HY4.out.cell 0
    have y1 := HY4.out.cell 1
    have y2 := HY4.out.cell 2
    have y3 := HY4.out.cell 3
    go_wp2
    go_ret
    exact ⟨by rw [HRES.out]; rfl, HBW4.out⟩
  subst e3
  have HSE2 := Lib.hid (show res = Fo.same ks ks2 by rw [HSE.out]; simp)
  by_cases e4 : m = m2
  case neg =>
    have d4 : ((m : Int) == (m2 : Int)) = false := beq_eq_false_iff_ne.2 (by omega)
    have d4' : ((m : Int) != (m2 : Int)) = true := bne_iff_ne.2 (by omega)
    have HRES := Lib.hid (show res = false by rw [HSE2.out]; exact same_false (fun e => e4 (by rw [← HM.out, ← HM2.out, e])))
    clear HIH HG HAT HG2 HAT2
    go_enter Tryd.func27, Tryd.ntmps27
    go_upto_region 1 with fail
    rw [← hW3, ← hW4]
    clear hW3 hW4 hH
    have x0 := HX4.out.cell 0
    have x1 := HX4.out.cell 1
    have x2 := HX4.out.cell 2
    have x3 := HX4.out.cell 3
    have y0 := HY4.out.cell 0
    have y1 := HY4.out.cell 1
    have y2 := HY4.out.cell 2
    have y3 := HY4.out.cell 3
    go_wp2
    go_ret
    exact ⟨by rw [HRES.out]; rfl, HBW4.out⟩
  subst e4
  go_enter Tryd.func27, Tryd.ntmps27
  go_upto_region 1 with fail
  rw [← hW3, ← hW4]
  clear hW3 hW4 hH
  have x0 := HX4.out.cell 0
  have x1 := HX4.out.cell 1
  have x2 := HX4.out.cell 2
  have x3 := HX4.out.cell 3
  have y0 := HY4.out.cell 0
  have y1 := HY4.out.cell 1
  have y2 := HY4.out.cell 2
  have y3 := HY4.out.cell 3
  go_wp2
  clear x0 x1 x2 x3 y0 y1 y2 y3
  go_loopw [5] (fun i wr => ∃ (j : Nat), j ≤ m ∧ i = .int .i64 j ∧ (∀ q, q < j → ks.get q = ks2.get q) ∧ Below w.heap.size w wr ∧ Blk wr w.heap.size #[.int .i64 k, .string ⟨nm.toArray⟩, .int .i64 n, .slice A m c] 26 ∧ Blk wr H #[.int .i64 k, .string ⟨nm.toArray⟩, .int .i64 n, .slice A2 m c2] 26) (fun i _ => m - (intOf i).toNat)
  case atStart => exact ⟨0, Nat.zero_le _, rfl, fun q hq => by omega, HBW4.out, HX4.out, HY4.out⟩
  case round =>
    clear HX4 HY4 HBW4
    obtain ⟨j, hj, rfl, hall, hbw, hbx, hby⟩ := hrel
    have HALL := Lib.hid hall
    have HB := Lib.hid hbw
    have HX := Lib.hid hbx
    have HY := Lib.hid hby
    clear hall hbw hbx hby
    have x3 := HX.out.cell 3
    by_cases hlt : j < m
    · have hlt2 : j < ks.len := by rw [HM.out]; exact hlt
      have hlt3 : j < ks2.len := by rw [HM2.out]; exact hlt
      obtain ⟨b, off, rfl, _, hb⟩ := HAT.out (by omega)
      obtain ⟨u, hu, hc0, hc1, hc2, hc3⟩ := HG.out b off rfl j hlt2
      obtain ⟨b2, off2, rfl, _, hb2⟩ := HAT2.out (by omega)
      obtain ⟨u2, hu2, hd0, hd1, hd2, hd3⟩ := HG2.out b2 off2 rfl j hlt3
      obtain ⟨A3, m3, c3, rfl, -⟩ := hu.open'
      obtain ⟨A4, m4, c4, rfl, -⟩ := hu2.open'
      have HCR := Lib.hid (fun W hb => HIH.out W j hlt hlt hb _ _ hu hu2)
      have HC0 := Lib.hid (And.intro ((HB.out.cell (p := ⟨b, off + j * 4, none⟩) hb).trans hc0) (Nat.lt_of_lt_of_le hb HB.out.size))
      have HD0 := Lib.hid (And.intro ((HB.out.cell (p := ⟨b2, off2 + j * 4, none⟩) hb2).trans hd0) (Nat.lt_of_lt_of_le hb2 HB.out.size))
      have HC1 := Lib.hid (And.intro ((HB.out.cell (p := ⟨b, off + j * 4 + 1, none⟩) hb).trans hc1) (Nat.lt_of_lt_of_le hb HB.out.size))
      have HD1 := Lib.hid (And.intro ((HB.out.cell (p := ⟨b2, off2 + j * 4 + 1, none⟩) hb2).trans hd1) (Nat.lt_of_lt_of_le hb2 HB.out.size))
      have HC2 := Lib.hid (And.intro ((HB.out.cell (p := ⟨b, off + j * 4 + 2, none⟩) hb).trans hc2) (Nat.lt_of_lt_of_le hb HB.out.size))
      have HD2 := Lib.hid (And.intro ((HB.out.cell (p := ⟨b2, off2 + j * 4 + 2, none⟩) hb2).trans hd2) (Nat.lt_of_lt_of_le hb2 HB.out.size))
      have HC3 := Lib.hid (And.intro ((HB.out.cell (p := ⟨b, off + j * 4 + 3, none⟩) hb).trans hc3) (Nat.lt_of_lt_of_le hb HB.out.size))
      have HD3 := Lib.hid (And.intro ((HB.out.cell (p := ⟨b2, off2 + j * 4 + 3, none⟩) hb2).trans hd3) (Nat.lt_of_lt_of_le hb2 HB.out.size))
      have HX3 := Lib.hid (And.intro (HX.out.cell 3) HX.out.lt)
      have HY3 := Lib.hid (And.intro (HY.out.cell 3) HY.out.lt)
      have HBR := Lib.hid (Below.refl wr.heap.size wr)
      have hjm : (j : Int) < (m : Int) := by omega
      have hj0 : (0 : Int) ≤ (j : Int) := by omega
      generalize hka : (ks.get j).1 = ka at *
      generalize hkb : (ks.get j).2.1 = kb at *
      generalize hkc : (ks.get j).2.2.1 = kc at *
      generalize hla : (ks2.get j).1 = la at *
      generalize hlb : (ks2.get j).2.1 = lb at *
      generalize hlc : (ks2.get j).2.2.1 = lc at *
      cases hsm : (ks.get j).same (ks2.get j) with
      | true =>
        have HGE := Lib.hid ((Tm.same_iff _ _).1 hsm)
        have HCT := Lib.hid (fun W hb => by have h := HCR.out W hb; rw [hsm] at h; exact h)
        clear hc0 hc1 hc2 hc3 hd0 hd1 hd2 hd3 hu hu2 hka hkb hkc hla hlb hlc HG HAT HG2 HAT2 HIH HCR hsm
        go_upto_region 6 with fail
        clear x3
        refine Lex.wp_region_lex (fun w' => Below wr.heap.size wr w') (fun _ => true)
          [(0, true), (1, true), (2, true), (3, true), (4, true), (5, true), (6, true), (7, true), (8, true), (9, true), (10, false), (11, true)]
          (by kernel_rfl) (by kernel_rfl) (by kernel_rfl) (by kernel_rfl) ⟨rfl, rfl, rfl, Nat.le_refl _, fun _ _ => rfl⟩ ?_
        have hb0 : Below wr.heap.size wr wr.drew := ⟨rfl, rfl, rfl, Nat.le_refl _, fun _ _ => rfl⟩
        have hw0 : Below w.heap.size w wr.drew := ⟨HB.out.os, HB.out.tape, HB.out.output, HB.out.size, HB.out.block⟩
        generalize hV0 : wr.drew = V0 at *
        clear hV0
        iterate 10 (refine Lex.lex_take (v := ?_) rfl rfl (by rfl) (fun _ hS => ?_) ?_; rotate_left 1; (focus (have g0 := (hS.cell HC0.out.2).trans HC0.out.1; have g1 := (hS.cell HC1.out.2).trans HC1.out.1; have g2 := (hS.cell HC2.out.2).trans HC2.out.1; have g3 := (hS.cell HC3.out.2).trans HC3.out.1; have g4 := (hS.cell HD0.out.2).trans HD0.out.1; have g5 := (hS.cell HD1.out.2).trans HD1.out.1; have g6 := (hS.cell HD2.out.2).trans HD2.out.1; have g7 := (hS.cell HD3.out.2).trans HD3.out.1; have g8 := (hS.cell HX3.out.2).trans HX3.out.1; have g9 := (hS.cell HY3.out.2).trans HY3.out.1; clear hS; go_simp; with_reducible rfl)); simp only [List.setIfInBounds_toArray, List.set_cons_zero, List.set_cons_succ])
        refine Lex.lex_do rfl ?_
        have cc := HCT.out V0 hw0
        go_wp2_with fail
        refine cc.mono ?_
        rintro e V1 ⟨rfl, hn1⟩
        have hb1 := hb0.trans (hn1.mono hb0.size)
        have hw1 := hw0.trans (hn1.mono hw0.size)
        clear cc hb0 hw0
        clear hn1
        go_wp2_with fail
        refine Lex.lexQ_normal (fun _ => hb1) ?_
        refine Lex.lex_take (v := ?_) rfl rfl (by rfl) (fun _ hS => ?_) ?_; rotate_left 1; (focus (have g0 := (hS.cell HC0.out.2).trans HC0.out.1; have g1 := (hS.cell HC1.out.2).trans HC1.out.1; have g2 := (hS.cell HC2.out.2).trans HC2.out.1; have g3 := (hS.cell HC3.out.2).trans HC3.out.1; have g4 := (hS.cell HD0.out.2).trans HD0.out.1; have g5 := (hS.cell HD1.out.2).trans HD1.out.1; have g6 := (hS.cell HD2.out.2).trans HD2.out.1; have g7 := (hS.cell HD3.out.2).trans HD3.out.1; have g8 := (hS.cell HX3.out.2).trans HX3.out.1; have g9 := (hS.cell HY3.out.2).trans HY3.out.1; clear hS; go_simp; with_reducible rfl)); simp only [List.setIfInBounds_toArray, List.set_cons_zero, List.set_cons_succ]
        refine Lex.lex_nil ?_
        have HB1 := Lib.hid hb1
        have HW1 := Lib.hid hw1
        go_wp2
        go_roundw
        case rel => exact ⟨j + 1, by omega, by go_num, fun q hq => by
          by_cases e : q = j
          · subst e; exact HGE.out
          · exact HALL.out q (by omega), HW1.out, HX.out.below HB1.out, HY.out.below HB1.out⟩
        case measure => simp [intOf]; omega
      | false =>
        have HRES := Lib.hid (show res = false by
          rw [HSE2.out]
          refine same_false (fun e => ?_)
          subst e
          rw [(Tm.same_iff _ _).2 rfl] at hsm
          cases hsm)
        have HCT := Lib.hid (fun W hb => by have h := HCR.out W hb; rw [hsm] at h; exact h)
        clear hc0 hc1 hc2 hc3 hd0 hd1 hd2 hd3 hu hu2 hka hkb hkc hla hlb hlc HG HAT HG2 HAT2 HIH HCR hsm
        go_upto_region 6 with fail
        clear x3
        refine Lex.wp_region_lex (fun w' => Below wr.heap.size wr w') (fun _ => true)
          [(0, true), (1, true), (2, true), (3, true), (4, true), (5, true), (6, true), (7, true), (8, true), (9, true), (10, false), (11, true)]
          (by kernel_rfl) (by kernel_rfl) (by kernel_rfl) (by kernel_rfl) ⟨rfl, rfl, rfl, Nat.le_refl _, fun _ _ => rfl⟩ ?_
        have hb0 : Below wr.heap.size wr wr.drew := ⟨rfl, rfl, rfl, Nat.le_refl _, fun _ _ => rfl⟩
        have hw0 : Below w.heap.size w wr.drew := ⟨HB.out.os, HB.out.tape, HB.out.output, HB.out.size, HB.out.block⟩
        generalize hV0 : wr.drew = V0 at *
        clear hV0
        iterate 10 (refine Lex.lex_take (v := ?_) rfl rfl (by rfl) (fun _ hS => ?_) ?_; rotate_left 1; (focus (have g0 := (hS.cell HC0.out.2).trans HC0.out.1; have g1 := (hS.cell HC1.out.2).trans HC1.out.1; have g2 := (hS.cell HC2.out.2).trans HC2.out.1; have g3 := (hS.cell HC3.out.2).trans HC3.out.1; have g4 := (hS.cell HD0.out.2).trans HD0.out.1; have g5 := (hS.cell HD1.out.2).trans HD1.out.1; have g6 := (hS.cell HD2.out.2).trans HD2.out.1; have g7 := (hS.cell HD3.out.2).trans HD3.out.1; have g8 := (hS.cell HX3.out.2).trans HX3.out.1; have g9 := (hS.cell HY3.out.2).trans HY3.out.1; clear hS; go_simp; with_reducible rfl)); simp only [List.setIfInBounds_toArray, List.set_cons_zero, List.set_cons_succ])
        refine Lex.lex_do rfl ?_
        have cc := HCT.out V0 hw0
        go_wp2_with fail
        refine cc.mono ?_
        rintro e V1 ⟨rfl, hn1⟩
        have hb1 := hb0.trans (hn1.mono hb0.size)
        have hw1 := hw0.trans (hn1.mono hw0.size)
        clear cc hb0 hw0
        clear hn1
        go_wp2_with fail
        refine Lex.lexQ_normal (fun _ => hb1) ?_
        refine Lex.lex_take (v := ?_) rfl rfl (by rfl) (fun _ hS => ?_) ?_; rotate_left 1; (focus (have g0 := (hS.cell HC0.out.2).trans HC0.out.1; have g1 := (hS.cell HC1.out.2).trans HC1.out.1; have g2 := (hS.cell HC2.out.2).trans HC2.out.1; have g3 := (hS.cell HC3.out.2).trans HC3.out.1; have g4 := (hS.cell HD0.out.2).trans HD0.out.1; have g5 := (hS.cell HD1.out.2).trans HD1.out.1; have g6 := (hS.cell HD2.out.2).trans HD2.out.1; have g7 := (hS.cell HD3.out.2).trans HD3.out.1; have g8 := (hS.cell HX3.out.2).trans HX3.out.1; have g9 := (hS.cell HY3.out.2).trans HY3.out.1; clear hS; go_simp; with_reducible rfl)); simp only [List.setIfInBounds_toArray, List.set_cons_zero, List.set_cons_succ]
        refine Lex.lex_nil ?_
        have HW1 := Lib.hid hw1
        go_wp2
        go_ret
        exact ⟨by rw [HRES.out]; rfl, HW1.out⟩
    · obtain rfl : m = j := by omega
      have HRES := Lib.hid (show res = true by rw [HSE2.out, Fo.same_iff]; exact Fo.ext_get ks ks2 (by rw [HM.out, HM2.out]) (fun j hj => HALL.out j (by rw [← HM.out]; exact hj)))
      clear HIH HG HAT HG2 HAT2
      go_wp2
      go_ret
      exact ⟨by rw [HRES.out]; rfl, HB.out⟩
theorem same_any : ∀ N, SameOk N
  | 0 => fun _ _ _ _ _ _ _ h => absurd h (Nat.not_lt_zero _)
  | N + 1 => same_step N (same_any N)
end Go.Proofs.YtobpacebpiabcaaDoor
