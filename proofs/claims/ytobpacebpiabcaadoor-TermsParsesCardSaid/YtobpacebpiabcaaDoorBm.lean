/- The document's shaped and Valid: contracts (printed by expand.py). -/
import Derived.Test.YtobpacebpiabcaaDoorBl
namespace Go.Proofs.YtobpacebpiabcaaDoor
open Go.RowKit Go.Lib

def ShapedOk (N : Nat) : Prop := ∀ (t : Tm) (S : Nat → Prop) (v : Value) (w : World), t.2.2.2.cnt < N → TmV S w v t → t.fo.fit → Calls Tryd.prog 42 #[v] w (RetW (.bool t.fo.shp) w)
set_option maxHeartbeats 6400000 in
set_option maxRecDepth 100000 in
theorem shaped_step (N : Nat) (IH : ShapedOk N) : ShapedOk (N + 1) := by
  intro t S v w hN hv hf
  obtain ⟨u, rfl, hu⟩ := hv
  obtain ⟨k, nm, n, ks⟩ := t
  obtain ⟨A, m, c, rfl, hm, hmc, hcm, hks⟩ := hu.open'
  dsimp only at *
  have hnm : nm.length ≤ 1000000 := by have h := hf.2.1; dsimp only at h; omega
  have HIH := Lib.hid (show ∀ W j (_ : j < m) (_ : Below w.heap.size w W) u (_ : KidsV S w u (ks.get j).2.2.2), Calls Tryd.prog 42 #[.agg #[.int .i64 (ks.get j).1, .string ⟨(ks.get j).2.1.toArray⟩, .int .i64 (ks.get j).2.2.1, u]] W (RetW (.bool (ks.get j).fo.shp) W) from
    fun W j hj hb u hu => IH (ks.get j) S _ W (by have := Fo.get_cnt ks j (by omega); omega) ⟨u, rfl, hu.below hb⟩ (Fo.get_fit ks j hf.2.2.2.1 (by omega)))
  have HG := Lib.hid (fun b off (e : A = some ⟨b, off, none⟩) j (hj : j < ks.len) => KidsAt.get (b := b) (off := off) (i := j) (show KidsAt S w (some ⟨b, off, none⟩) ks by rw [← e]; exact hks) hj)
  have HAT := Lib.hid (fun (h : 0 < ks.len) => hks.at h)
  have HM := Lib.hid hm
  have HFS := Lib.hid (fo_shp (k, nm, n, ks))
  have HSS := Lib.hid (fun j (hj : j < ks.len) => Fo.shpTo_succ ks j hj)
  have HSN := Lib.hid (fun j (h : ks.shpTo j = false) => Fo.shpTo_no h)
  have HSE := Lib.hid (Fo.shpTo_len ks)
  have HO := Lib.hid (okN_eq k nm n ks.len)
  have ck := fun W => refkids_any k W
  have cn := fun W => refname_any nm W hnm
  have ci := fun W => refin_any n 0 1000000 W
  have HBAD := Lib.hid (fun h : okN k nm n ks.len = false => (show (Tm.fo (k, nm, n, ks)).shp = false by rw [fo_shp]; show (okN k nm n ks.len && _) = false; rw [h]; rfl))
  clear IH hks hu hm hN hf hnm
  unfold maxLen at hcm
  generalize hT : (Tm.fo (k, nm, n, ks)).shp = T at *
  clear hT
  obtain ⟨W3, hW3⟩ : ∃ W3, W3 = w.alloc (.cells #[.int .i64 k, .string ⟨nm.toArray⟩, .int .i64 n, .slice A m c] 26) := ⟨_, rfl⟩
  have hB : Below w.heap.size w W3 := by rw [hW3]; exact (Below.refl _ _).alloc (Nat.le_refl _) _
  have hx : Boxed W3 w.heap.size k nm n A m c := by rw [hW3]; exact Boxed.new _ _ _ _ _ _ _ _
  have HX := Lib.hid hx
  have HBW := Lib.hid hB
  have HC0 := Lib.hid (And.intro hx.2.1 hx.1)
  have HC1 := Lib.hid (And.intro hx.2.2.1 hx.1)
  have HC2 := Lib.hid (And.intro hx.2.2.2.1 hx.1)
  have HC3 := Lib.hid (And.intro hx.2.2.2.2 hx.1)
  clear hx hB
  by_cases hkn : ((ks.len : Int)) = kidsN k
  rotate_left
  · have HR := Lib.hid (HBAD.out (by rw [HO.out, decide_eq_false hkn]; rfl))
    have d0 : (kidsN k != (m : Int)) = true := by rw [bne_iff_ne]; rw [HM.out] at hkn; exact fun e => hkn e.symm
    generalize kidsN k = kn at *
    clear hkn HBAD HFS HSS HSN HSE HO HIH HG HAT
    go_enter Tryd.func42, Tryd.ntmps42
    go_upto_region 1 with fail
    rw [← hW3]
    clear hW3
    refine Lex.wp_region_lex (fun w' => Below W3.heap.size W3 w') (fun _ => true)
      [(0, true), (1, true), (3, true), (4, true), (5, true), (2, false), (6, true), (7, true), (8, true), (9, true), (10, true), (11, true), (12, true), (13, true), (14, true), (15, true), (16, true), (17, true), (18, true), (19, true), (20, true), (21, true), (22, true), (23, true), (24, true), (25, true), (26, true)]
      (by kernel_rfl) (by kernel_rfl) (by kernel_rfl) (by kernel_rfl) ⟨rfl, rfl, rfl, Nat.le_refl _, fun _ _ => rfl⟩ ?_
    have hb0 : Below W3.heap.size W3 W3.drew := ⟨rfl, rfl, rfl, Nat.le_refl _, fun _ _ => rfl⟩
    have hw0 : Below w.heap.size w W3.drew := ⟨HBW.out.os, HBW.out.tape, HBW.out.output, HBW.out.size, HBW.out.block⟩
    generalize hV0 : W3.drew = V0 at *
    clear hV0
    iterate 5 (refine Lex.lex_take (v := ?_) rfl rfl (by rfl) (fun _ hS => ?_) ?_; rotate_left 1; (focus (have g0 := (hS.cell HC0.out.2).trans HC0.out.1; have g1 := (hS.cell HC1.out.2).trans HC1.out.1; have g2 := (hS.cell HC2.out.2).trans HC2.out.1; have g3 := (hS.cell HC3.out.2).trans HC3.out.1; clear hS; go_simp; with_reducible rfl)); simp only [List.setIfInBounds_toArray, List.set_cons_zero, List.set_cons_succ])
    refine Lex.lex_do rfl ?_
    have cc := ck V0
    go_wp2_with fail
    refine cc.mono ?_
    rintro e V1 ⟨rfl, rfl⟩
    clear cc
    go_wp2_with fail
    refine Lex.lexQ_normal (fun _ => hb0) ?_
    iterate 2 (refine Lex.lex_take (v := ?_) rfl rfl (by rfl) (fun _ hS => ?_) ?_; rotate_left 1; (focus (have g0 := (hS.cell HC0.out.2).trans HC0.out.1; have g1 := (hS.cell HC1.out.2).trans HC1.out.1; have g2 := (hS.cell HC2.out.2).trans HC2.out.1; have g3 := (hS.cell HC3.out.2).trans HC3.out.1; clear hS; go_simp; with_reducible rfl)); simp only [List.setIfInBounds_toArray, List.set_cons_zero, List.set_cons_succ])
    iterate 8 (refine Lex.lex_skip rfl rfl (by rfl) ?_; simp only [List.setIfInBounds_toArray, List.set_cons_zero, List.set_cons_succ])
    iterate 2 (refine Lex.lex_take (v := ?_) rfl rfl (by rfl) (fun _ hS => ?_) ?_; rotate_left 1; (focus (have g0 := (hS.cell HC0.out.2).trans HC0.out.1; have g1 := (hS.cell HC1.out.2).trans HC1.out.1; have g2 := (hS.cell HC2.out.2).trans HC2.out.1; have g3 := (hS.cell HC3.out.2).trans HC3.out.1; clear hS; go_simp; with_reducible rfl)); simp only [List.setIfInBounds_toArray, List.set_cons_zero, List.set_cons_succ])
    iterate 8 (refine Lex.lex_skip rfl rfl (by rfl) ?_; simp only [List.setIfInBounds_toArray, List.set_cons_zero, List.set_cons_succ])
    refine Lex.lex_take (v := ?_) rfl rfl (by rfl) (fun _ hS => ?_) ?_; rotate_left 1; (focus (have g0 := (hS.cell HC0.out.2).trans HC0.out.1; have g1 := (hS.cell HC1.out.2).trans HC1.out.1; have g2 := (hS.cell HC2.out.2).trans HC2.out.1; have g3 := (hS.cell HC3.out.2).trans HC3.out.1; clear hS; go_simp; with_reducible rfl)); simp only [List.setIfInBounds_toArray, List.set_cons_zero, List.set_cons_succ]
    refine Lex.lex_nil ?_
    go_wp2
    go_ret
    exact ⟨by rw [HR.out]; rfl, hw0⟩
  have d0 : (kidsN k != (m : Int)) = false := by rw [bne_eq_false_iff_eq, ← hkn, HM.out]
  have HO1 := Lib.hid (show okN k nm n ks.len = ((if k = 2 then isName nm else decide (nm = [])) && (if k = 10 then decide (0 ≤ n) && decide (n ≤ 1000000) else decide (n = 0))) by rw [HO.out, decide_eq_true hkn, Bool.true_and])
  clear HO hkn
  by_cases hk2 : k = 2
  · subst hk2
    have ho := HO1.out
    rw [if_pos rfl, if_neg (by decide)] at ho
    clear HO1
    generalize kidsN 2 = kn at *
    by_cases hn : n = 0
    rotate_left
    · have HR := Lib.hid (HBAD.out (by rw [ho, decide_eq_false hn, Bool.and_false]))
      have dn : (n != 0) = true := by rw [bne_iff_ne]; exact hn
      clear HBAD HFS HSS HSN HSE HIH HG HAT ho hn
      go_enter Tryd.func42, Tryd.ntmps42
      go_upto_region 1 with fail
      rw [← hW3]
      clear hW3
      refine Lex.wp_region_lex (fun w' => Below W3.heap.size W3 w') (fun _ => true)
        [(0, true), (1, true), (3, true), (4, true), (5, true), (2, false), (6, true), (7, true), (8, true), (9, true), (10, true), (11, true), (12, true), (13, true), (14, true), (15, true), (16, true), (17, true), (18, true), (19, true), (20, true), (21, true), (22, true), (23, true), (24, true), (25, true), (26, true)]
        (by kernel_rfl) (by kernel_rfl) (by kernel_rfl) (by kernel_rfl) ⟨rfl, rfl, rfl, Nat.le_refl _, fun _ _ => rfl⟩ ?_
      have hb0 : Below W3.heap.size W3 W3.drew := ⟨rfl, rfl, rfl, Nat.le_refl _, fun _ _ => rfl⟩
      have hw0 : Below w.heap.size w W3.drew := ⟨HBW.out.os, HBW.out.tape, HBW.out.output, HBW.out.size, HBW.out.block⟩
      generalize hV0 : W3.drew = V0 at *
      clear hV0
      iterate 5 (refine Lex.lex_take (v := ?_) rfl rfl (by rfl) (fun _ hS => ?_) ?_; rotate_left 1; (focus (have g0 := (hS.cell HC0.out.2).trans HC0.out.1; have g1 := (hS.cell HC1.out.2).trans HC1.out.1; have g2 := (hS.cell HC2.out.2).trans HC2.out.1; have g3 := (hS.cell HC3.out.2).trans HC3.out.1; clear hS; go_simp; with_reducible rfl)); simp only [List.setIfInBounds_toArray, List.set_cons_zero, List.set_cons_succ])
      refine Lex.lex_do rfl ?_
      have cc := ck V0
      go_wp2_with fail
      refine cc.mono ?_
      rintro e V1 ⟨rfl, rfl⟩
      clear cc
      go_wp2_with fail
      refine Lex.lexQ_normal (fun _ => hb0) ?_
      iterate 12 (refine Lex.lex_take (v := ?_) rfl rfl (by rfl) (fun _ hS => ?_) ?_; rotate_left 1; (focus (have g0 := (hS.cell HC0.out.2).trans HC0.out.1; have g1 := (hS.cell HC1.out.2).trans HC1.out.1; have g2 := (hS.cell HC2.out.2).trans HC2.out.1; have g3 := (hS.cell HC3.out.2).trans HC3.out.1; clear hS; go_simp; with_reducible rfl)); simp only [List.setIfInBounds_toArray, List.set_cons_zero, List.set_cons_succ])
      iterate 8 (refine Lex.lex_skip rfl rfl (by rfl) ?_; simp only [List.setIfInBounds_toArray, List.set_cons_zero, List.set_cons_succ])
      refine Lex.lex_take (v := ?_) rfl rfl (by rfl) (fun _ hS => ?_) ?_; rotate_left 1; (focus (have g0 := (hS.cell HC0.out.2).trans HC0.out.1; have g1 := (hS.cell HC1.out.2).trans HC1.out.1; have g2 := (hS.cell HC2.out.2).trans HC2.out.1; have g3 := (hS.cell HC3.out.2).trans HC3.out.1; clear hS; go_simp; with_reducible rfl)); simp only [List.setIfInBounds_toArray, List.set_cons_zero, List.set_cons_succ]
      refine Lex.lex_nil ?_
      go_wp2
      go_ret
      exact ⟨by rw [HR.out]; rfl, hw0⟩
    subst hn
    rw [decide_eq_true rfl, Bool.and_true] at ho
    generalize isName nm = r at *
    cases r with
    | false =>
      have HR := Lib.hid (HBAD.out ho)
      clear HBAD HFS HSS HSN HSE HIH HG HAT ho
      go_enter Tryd.func42, Tryd.ntmps42
      go_upto_region 1 with fail
      rw [← hW3]
      clear hW3
      refine Lex.wp_region_lex (fun w' => Below W3.heap.size W3 w') (fun _ => true)
        [(0, true), (1, true), (3, true), (4, true), (5, true), (2, false), (6, true), (7, true), (8, true), (9, true), (10, true), (11, true), (12, true), (13, true), (14, true), (15, true), (16, true), (17, true), (18, true), (19, true), (20, true), (21, true), (22, true), (23, true), (24, true), (25, true), (26, true)]
        (by kernel_rfl) (by kernel_rfl) (by kernel_rfl) (by kernel_rfl) ⟨rfl, rfl, rfl, Nat.le_refl _, fun _ _ => rfl⟩ ?_
      have hb0 : Below W3.heap.size W3 W3.drew := ⟨rfl, rfl, rfl, Nat.le_refl _, fun _ _ => rfl⟩
      have hw0 : Below w.heap.size w W3.drew := ⟨HBW.out.os, HBW.out.tape, HBW.out.output, HBW.out.size, HBW.out.block⟩
      generalize hV0 : W3.drew = V0 at *
      clear hV0
      iterate 5 (refine Lex.lex_take (v := ?_) rfl rfl (by rfl) (fun _ hS => ?_) ?_; rotate_left 1; (focus (have g0 := (hS.cell HC0.out.2).trans HC0.out.1; have g1 := (hS.cell HC1.out.2).trans HC1.out.1; have g2 := (hS.cell HC2.out.2).trans HC2.out.1; have g3 := (hS.cell HC3.out.2).trans HC3.out.1; clear hS; go_simp; with_reducible rfl)); simp only [List.setIfInBounds_toArray, List.set_cons_zero, List.set_cons_succ])
      refine Lex.lex_do rfl ?_
      have cc := ck V0
      go_wp2_with fail
      refine cc.mono ?_
      rintro e V1 ⟨rfl, rfl⟩
      clear cc
      go_wp2_with fail
      refine Lex.lexQ_normal (fun _ => hb0) ?_
      iterate 16 (refine Lex.lex_take (v := ?_) rfl rfl (by rfl) (fun _ hS => ?_) ?_; rotate_left 1; (focus (have g0 := (hS.cell HC0.out.2).trans HC0.out.1; have g1 := (hS.cell HC1.out.2).trans HC1.out.1; have g2 := (hS.cell HC2.out.2).trans HC2.out.1; have g3 := (hS.cell HC3.out.2).trans HC3.out.1; clear hS; go_simp; with_reducible rfl)); simp only [List.setIfInBounds_toArray, List.set_cons_zero, List.set_cons_succ])
      iterate 3 (refine Lex.lex_skip rfl rfl (by rfl) ?_; simp only [List.setIfInBounds_toArray, List.set_cons_zero, List.set_cons_succ])
      iterate 2 (refine Lex.lex_take (v := ?_) rfl rfl (by rfl) (fun _ hS => ?_) ?_; rotate_left 1; (focus (have g0 := (hS.cell HC0.out.2).trans HC0.out.1; have g1 := (hS.cell HC1.out.2).trans HC1.out.1; have g2 := (hS.cell HC2.out.2).trans HC2.out.1; have g3 := (hS.cell HC3.out.2).trans HC3.out.1; clear hS; go_simp; with_reducible rfl)); simp only [List.setIfInBounds_toArray, List.set_cons_zero, List.set_cons_succ])
      refine Lex.lex_nil ?_
      have k0 := (HX.out.below hb0).2.1
      have k1 := (HX.out.below hb0).2.2.1
      have HW := Lib.hid hw0
      clear hw0 hb0
      go_wp2_with fail
      refine (cn _).mono ?_
      rintro e W5 ⟨rfl, hn⟩
      have HW5 := Lib.hid (HW.out.trans (hn.mono HW.out.size))
      clear hn k0 k1
      go_wp2_with fail
      go_ret
      exact ⟨by rw [HR.out]; rfl, HW5.out⟩
    | true =>
      have HOK := Lib.hid ho
      clear ho
      go_enter Tryd.func42, Tryd.ntmps42
      go_upto_region 1 with fail
      rw [← hW3]
      clear hW3
      refine Lex.wp_region_lex (fun w' => Below W3.heap.size W3 w') (fun _ => true)
        [(0, true), (1, true), (3, true), (4, true), (5, true), (2, false), (6, true), (7, true), (8, true), (9, true), (10, true), (11, true), (12, true), (13, true), (14, true), (15, true), (16, true), (17, true), (18, true), (19, true), (20, true), (21, true), (22, true), (23, true), (24, true), (25, true), (26, true)]
        (by kernel_rfl) (by kernel_rfl) (by kernel_rfl) (by kernel_rfl) ⟨rfl, rfl, rfl, Nat.le_refl _, fun _ _ => rfl⟩ ?_
      have hb0 : Below W3.heap.size W3 W3.drew := ⟨rfl, rfl, rfl, Nat.le_refl _, fun _ _ => rfl⟩
      have hw0 : Below w.heap.size w W3.drew := ⟨HBW.out.os, HBW.out.tape, HBW.out.output, HBW.out.size, HBW.out.block⟩
      generalize hV0 : W3.drew = V0 at *
      clear hV0
      iterate 5 (refine Lex.lex_take (v := ?_) rfl rfl (by rfl) (fun _ hS => ?_) ?_; rotate_left 1; (focus (have g0 := (hS.cell HC0.out.2).trans HC0.out.1; have g1 := (hS.cell HC1.out.2).trans HC1.out.1; have g2 := (hS.cell HC2.out.2).trans HC2.out.1; have g3 := (hS.cell HC3.out.2).trans HC3.out.1; clear hS; go_simp; with_reducible rfl)); simp only [List.setIfInBounds_toArray, List.set_cons_zero, List.set_cons_succ])
      refine Lex.lex_do rfl ?_
      have cc := ck V0
      go_wp2_with fail
      refine cc.mono ?_
      rintro e V1 ⟨rfl, rfl⟩
      clear cc
      go_wp2_with fail
      refine Lex.lexQ_normal (fun _ => hb0) ?_
      iterate 16 (refine Lex.lex_take (v := ?_) rfl rfl (by rfl) (fun _ hS => ?_) ?_; rotate_left 1; (focus (have g0 := (hS.cell HC0.out.2).trans HC0.out.1; have g1 := (hS.cell HC1.out.2).trans HC1.out.1; have g2 := (hS.cell HC2.out.2).trans HC2.out.1; have g3 := (hS.cell HC3.out.2).trans HC3.out.1; clear hS; go_simp; with_reducible rfl)); simp only [List.setIfInBounds_toArray, List.set_cons_zero, List.set_cons_succ])
      iterate 3 (refine Lex.lex_skip rfl rfl (by rfl) ?_; simp only [List.setIfInBounds_toArray, List.set_cons_zero, List.set_cons_succ])
      iterate 2 (refine Lex.lex_take (v := ?_) rfl rfl (by rfl) (fun _ hS => ?_) ?_; rotate_left 1; (focus (have g0 := (hS.cell HC0.out.2).trans HC0.out.1; have g1 := (hS.cell HC1.out.2).trans HC1.out.1; have g2 := (hS.cell HC2.out.2).trans HC2.out.1; have g3 := (hS.cell HC3.out.2).trans HC3.out.1; clear hS; go_simp; with_reducible rfl)); simp only [List.setIfInBounds_toArray, List.set_cons_zero, List.set_cons_succ])
      refine Lex.lex_nil ?_
      have k0 := (HX.out.below hb0).2.1
      have k1 := (HX.out.below hb0).2.2.1
      have HW0 := Lib.hid hw0
      have HX0 := Lib.hid (HX.out.below hb0)
      clear hw0 hb0
      go_wp2_with fail
      refine (cn _).mono ?_
      rintro e W5 ⟨rfl, hn⟩
      have hw9 := HW0.out.trans (hn.mono HW0.out.size)
      have hx9 := HX0.out.below hn
      clear hn k0 k1 HW0 HX0
      have HW := Lib.hid hw9
      have HXV := Lib.hid hx9
      clear hw9 hx9 HX HC0 HC1 HC2 HC3 HBW ck cn d0 HBAD
      go_wp2
      go_loopw [3] (fun i wr => ∃ j : Nat, j ≤ m ∧ i = .int .i64 j ∧ ks.shpTo j = true ∧ Below w.heap.size w wr ∧ Boxed wr w.heap.size 2 nm 0 A m c) (fun i _ => m - (intOf i).toNat)
      case atStart => exact ⟨0, Nat.zero_le _, rfl, by cases ks <;> rfl, HW.out, HXV.out⟩
      case round =>
        clear HW HXV
        obtain ⟨j, hj, rfl, hsh, hbw, hbx⟩ := hrel
        have HB := Lib.hid hbw
        have HX := Lib.hid hbx
        have HSH := Lib.hid hsh
        clear hbw hsh hbx
        have k3 := HX.out.2.2.2.2
        by_cases hlt : j < m
        · have hlt2 : j < ks.len := by rw [HM.out]; exact hlt
          obtain ⟨b, off, rfl, _, hb⟩ := HAT.out (by omega)
          obtain ⟨u, hu, hc0, hc1, hc2, hc3⟩ := HG.out b off rfl j hlt2
          replace hc0 := (HB.out.cell (p := ⟨b, off + j * 4, none⟩) hb).trans hc0
          replace hc1 := (HB.out.cell (p := ⟨b, off + j * 4 + 1, none⟩) hb).trans hc1
          replace hc2 := (HB.out.cell (p := ⟨b, off + j * 4 + 2, none⟩) hb).trans hc2
          replace hc3 := (HB.out.cell (p := ⟨b, off + j * 4 + 3, none⟩) hb).trans hc3
          obtain ⟨A2, m2, c2, rfl, -⟩ := hu.open'
          have cr := fun W hb => HIH.out W j hlt hb _ hu
          have hs := HSS.out j hlt2
          rw [HSH.out, Bool.true_and] at hs
          have hno := HSN.out (j + 1)
          generalize (ks.get j).fo.shp = z at *
          generalize (ks.get j).1 = kk at *
          generalize (ks.get j).2.1 = knm at *
          generalize (ks.get j).2.2.1 = kn' at *
          have HS2 := Lib.hid hs
          have HNO2 := Lib.hid hno
          clear hs hno hu HIH HG HAT HSS HSN HSE
          cases z
          · have HR := Lib.hid (show T = false by rw [HFS.out, HOK.out]; exact HNO2.out HS2.out)
            go_wp2_with fail
            refine (cr _ HB.out).mono ?_
            rintro e W5 ⟨rfl, hn⟩
            have HW5 := Lib.hid (HB.out.trans (hn.mono HB.out.size))
            clear hn cr hc0 hc1 hc2 hc3 k3
            go_wp2_with fail
            go_ret
            exact ⟨by rw [HR.out]; rfl, HW5.out⟩
          · go_wp2_with fail
            refine (cr _ HB.out).mono ?_
            rintro e W5 ⟨rfl, hn⟩
            have HW5 := Lib.hid (HB.out.trans (hn.mono HB.out.size))
            have HX5 := Lib.hid (HX.out.below hn)
            clear hn cr hc0 hc1 hc2 hc3 k3
            go_wp2_with fail
            go_roundw
            case rel => exact ⟨j + 1, by omega, by go_num, HS2.out, HW5.out, HX5.out⟩
            case measure => simp [intOf]; omega
        · have hjm : j = m := by omega
          subst hjm
          have HR := Lib.hid (show T = true by rw [HFS.out, HOK.out]; show ks.shp = true; rw [← HSE.out, HM.out]; exact HSH.out)
          clear HG HAT HIH HSS HSN HSE
          go_wp2
          go_ret
          exact ⟨by rw [HR.out]; rfl, HB.out⟩
  · have ho := HO1.out
    rw [if_neg hk2] at ho
    have dk1 : (k == 2) = false := by rw [beq_eq_false_iff_ne]; exact hk2
    have dk2 : (k != 2) = true := by rw [bne, dk1]; rfl
    clear HO1 hk2
    generalize kidsN k = kn at *
    by_cases hk10 : k = 10
    · subst hk10
      rw [if_pos rfl] at ho
      clear dk1 dk2
      cases nm with
      | cons a r =>
        have HR := Lib.hid (HBAD.out (by rw [ho, decide_eq_false (by simp)]; rfl))
        clear HBAD HFS HSS HSN HSE HIH HG HAT ho
        go_enter Tryd.func42, Tryd.ntmps42
        go_upto_region 1 with fail
        rw [← hW3]
        clear hW3
        refine Lex.wp_region_lex (fun w' => Below W3.heap.size W3 w') (fun _ => true)
          [(0, true), (1, true), (3, true), (4, true), (5, true), (2, false), (6, true), (7, true), (8, true), (9, true), (10, true), (11, true), (12, true), (13, true), (14, true), (15, true), (16, true), (17, true), (18, true), (19, true), (20, true), (21, true), (22, true), (23, true), (24, true), (25, true), (26, true)]
          (by kernel_rfl) (by kernel_rfl) (by kernel_rfl) (by kernel_rfl) ⟨rfl, rfl, rfl, Nat.le_refl _, fun _ _ => rfl⟩ ?_
        have hb0 : Below W3.heap.size W3 W3.drew := ⟨rfl, rfl, rfl, Nat.le_refl _, fun _ _ => rfl⟩
        have hw0 : Below w.heap.size w W3.drew := ⟨HBW.out.os, HBW.out.tape, HBW.out.output, HBW.out.size, HBW.out.block⟩
        generalize hV0 : W3.drew = V0 at *
        clear hV0
        iterate 5 (refine Lex.lex_take (v := ?_) rfl rfl (by rfl) (fun _ hS => ?_) ?_; rotate_left 1; (focus (have g0 := (hS.cell HC0.out.2).trans HC0.out.1; have g1 := (hS.cell HC1.out.2).trans HC1.out.1; have g2 := (hS.cell HC2.out.2).trans HC2.out.1; have g3 := (hS.cell HC3.out.2).trans HC3.out.1; clear hS; go_simp; with_reducible rfl)); simp only [List.setIfInBounds_toArray, List.set_cons_zero, List.set_cons_succ])
        refine Lex.lex_do rfl ?_
        have cc := ck V0
        go_wp2_with fail
        refine cc.mono ?_
        rintro e V1 ⟨rfl, rfl⟩
        clear cc
        go_wp2_with fail
        refine Lex.lexQ_normal (fun _ => hb0) ?_
        iterate 6 (refine Lex.lex_take (v := ?_) rfl rfl (by rfl) (fun _ hS => ?_) ?_; rotate_left 1; (focus (have g0 := (hS.cell HC0.out.2).trans HC0.out.1; have g1 := (hS.cell HC1.out.2).trans HC1.out.1; have g2 := (hS.cell HC2.out.2).trans HC2.out.1; have g3 := (hS.cell HC3.out.2).trans HC3.out.1; clear hS; go_simp; with_reducible rfl)); simp only [List.setIfInBounds_toArray, List.set_cons_zero, List.set_cons_succ])
        iterate 3 (refine Lex.lex_skip rfl rfl (by rfl) ?_; simp only [List.setIfInBounds_toArray, List.set_cons_zero, List.set_cons_succ])
        iterate 12 (refine Lex.lex_take (v := ?_) rfl rfl (by rfl) (fun _ hS => ?_) ?_; rotate_left 1; (focus (have g0 := (hS.cell HC0.out.2).trans HC0.out.1; have g1 := (hS.cell HC1.out.2).trans HC1.out.1; have g2 := (hS.cell HC2.out.2).trans HC2.out.1; have g3 := (hS.cell HC3.out.2).trans HC3.out.1; clear hS; go_simp; with_reducible rfl)); simp only [List.setIfInBounds_toArray, List.set_cons_zero, List.set_cons_succ])
        refine Lex.lex_nil ?_
        go_wp2
        go_ret
        exact ⟨by rw [HR.out]; rfl, hw0⟩
      | nil =>
        rw [decide_eq_true rfl, Bool.true_and] at ho
        generalize (decide (0 ≤ n) && decide (n ≤ 1000000)) = r at *
        cases r with
        | false =>
          have HR := Lib.hid (HBAD.out ho)
          clear HBAD HFS HSS HSN HSE HIH HG HAT ho
          go_enter Tryd.func42, Tryd.ntmps42
          go_upto_region 1 with fail
          rw [← hW3]
          clear hW3
          refine Lex.wp_region_lex (fun w' => Below W3.heap.size W3 w') (fun _ => true)
            [(0, true), (1, true), (3, true), (4, true), (5, true), (2, false), (6, true), (7, true), (8, true), (9, true), (10, true), (11, true), (12, true), (13, true), (14, true), (15, true), (16, true), (17, true), (18, true), (19, true), (20, true), (21, true), (22, true), (23, true), (24, true), (25, true), (26, true)]
            (by kernel_rfl) (by kernel_rfl) (by kernel_rfl) (by kernel_rfl) ⟨rfl, rfl, rfl, Nat.le_refl _, fun _ _ => rfl⟩ ?_
          have hb0 : Below W3.heap.size W3 W3.drew := ⟨rfl, rfl, rfl, Nat.le_refl _, fun _ _ => rfl⟩
          have hw0 : Below w.heap.size w W3.drew := ⟨HBW.out.os, HBW.out.tape, HBW.out.output, HBW.out.size, HBW.out.block⟩
          generalize hV0 : W3.drew = V0 at *
          clear hV0
          iterate 5 (refine Lex.lex_take (v := ?_) rfl rfl (by rfl) (fun _ hS => ?_) ?_; rotate_left 1; (focus (have g0 := (hS.cell HC0.out.2).trans HC0.out.1; have g1 := (hS.cell HC1.out.2).trans HC1.out.1; have g2 := (hS.cell HC2.out.2).trans HC2.out.1; have g3 := (hS.cell HC3.out.2).trans HC3.out.1; clear hS; go_simp; with_reducible rfl)); simp only [List.setIfInBounds_toArray, List.set_cons_zero, List.set_cons_succ])
          refine Lex.lex_do rfl ?_
          have cc := ck V0
          go_wp2_with fail
          refine cc.mono ?_
          rintro e V1 ⟨rfl, rfl⟩
          clear cc
          go_wp2_with fail
          refine Lex.lexQ_normal (fun _ => hb0) ?_
          iterate 6 (refine Lex.lex_take (v := ?_) rfl rfl (by rfl) (fun _ hS => ?_) ?_; rotate_left 1; (focus (have g0 := (hS.cell HC0.out.2).trans HC0.out.1; have g1 := (hS.cell HC1.out.2).trans HC1.out.1; have g2 := (hS.cell HC2.out.2).trans HC2.out.1; have g3 := (hS.cell HC3.out.2).trans HC3.out.1; clear hS; go_simp; with_reducible rfl)); simp only [List.setIfInBounds_toArray, List.set_cons_zero, List.set_cons_succ])
          iterate 3 (refine Lex.lex_skip rfl rfl (by rfl) ?_; simp only [List.setIfInBounds_toArray, List.set_cons_zero, List.set_cons_succ])
          iterate 12 (refine Lex.lex_take (v := ?_) rfl rfl (by rfl) (fun _ hS => ?_) ?_; rotate_left 1; (focus (have g0 := (hS.cell HC0.out.2).trans HC0.out.1; have g1 := (hS.cell HC1.out.2).trans HC1.out.1; have g2 := (hS.cell HC2.out.2).trans HC2.out.1; have g3 := (hS.cell HC3.out.2).trans HC3.out.1; clear hS; go_simp; with_reducible rfl)); simp only [List.setIfInBounds_toArray, List.set_cons_zero, List.set_cons_succ])
          refine Lex.lex_nil ?_
          have k0 := (HX.out.below hb0).2.1
          have k2 := (HX.out.below hb0).2.2.2.1
          have HW := Lib.hid hw0
          clear hw0 hb0
          go_wp2_with fail
          refine (ci _).mono ?_
          rintro e W5 ⟨rfl, rfl⟩
          go_wp2_with fail
          go_ret
          exact ⟨by rw [HR.out]; rfl, HW.out⟩
        | true =>
          have HOK := Lib.hid ho
          clear ho
          go_enter Tryd.func42, Tryd.ntmps42
          go_upto_region 1 with fail
          rw [← hW3]
          clear hW3
          refine Lex.wp_region_lex (fun w' => Below W3.heap.size W3 w') (fun _ => true)
            [(0, true), (1, true), (3, true), (4, true), (5, true), (2, false), (6, true), (7, true), (8, true), (9, true), (10, true), (11, true), (12, true), (13, true), (14, true), (15, true), (16, true), (17, true), (18, true), (19, true), (20, true), (21, true), (22, true), (23, true), (24, true), (25, true), (26, true)]
            (by kernel_rfl) (by kernel_rfl) (by kernel_rfl) (by kernel_rfl) ⟨rfl, rfl, rfl, Nat.le_refl _, fun _ _ => rfl⟩ ?_
          have hb0 : Below W3.heap.size W3 W3.drew := ⟨rfl, rfl, rfl, Nat.le_refl _, fun _ _ => rfl⟩
          have hw0 : Below w.heap.size w W3.drew := ⟨HBW.out.os, HBW.out.tape, HBW.out.output, HBW.out.size, HBW.out.block⟩
          generalize hV0 : W3.drew = V0 at *
          clear hV0
          iterate 5 (refine Lex.lex_take (v := ?_) rfl rfl (by rfl) (fun _ hS => ?_) ?_; rotate_left 1; (focus (have g0 := (hS.cell HC0.out.2).trans HC0.out.1; have g1 := (hS.cell HC1.out.2).trans HC1.out.1; have g2 := (hS.cell HC2.out.2).trans HC2.out.1; have g3 := (hS.cell HC3.out.2).trans HC3.out.1; clear hS; go_simp; with_reducible rfl)); simp only [List.setIfInBounds_toArray, List.set_cons_zero, List.set_cons_succ])
          refine Lex.lex_do rfl ?_
          have cc := ck V0
          go_wp2_with fail
          refine cc.mono ?_
          rintro e V1 ⟨rfl, rfl⟩
          clear cc
          go_wp2_with fail
          refine Lex.lexQ_normal (fun _ => hb0) ?_
          iterate 6 (refine Lex.lex_take (v := ?_) rfl rfl (by rfl) (fun _ hS => ?_) ?_; rotate_left 1; (focus (have g0 := (hS.cell HC0.out.2).trans HC0.out.1; have g1 := (hS.cell HC1.out.2).trans HC1.out.1; have g2 := (hS.cell HC2.out.2).trans HC2.out.1; have g3 := (hS.cell HC3.out.2).trans HC3.out.1; clear hS; go_simp; with_reducible rfl)); simp only [List.setIfInBounds_toArray, List.set_cons_zero, List.set_cons_succ])
          iterate 3 (refine Lex.lex_skip rfl rfl (by rfl) ?_; simp only [List.setIfInBounds_toArray, List.set_cons_zero, List.set_cons_succ])
          iterate 12 (refine Lex.lex_take (v := ?_) rfl rfl (by rfl) (fun _ hS => ?_) ?_; rotate_left 1; (focus (have g0 := (hS.cell HC0.out.2).trans HC0.out.1; have g1 := (hS.cell HC1.out.2).trans HC1.out.1; have g2 := (hS.cell HC2.out.2).trans HC2.out.1; have g3 := (hS.cell HC3.out.2).trans HC3.out.1; clear hS; go_simp; with_reducible rfl)); simp only [List.setIfInBounds_toArray, List.set_cons_zero, List.set_cons_succ])
          refine Lex.lex_nil ?_
          have k0 := (HX.out.below hb0).2.1
          have k2 := (HX.out.below hb0).2.2.2.1
          have hx9 := HX.out.below hb0
          have hw9 := hw0
          clear hw0 hb0
          go_wp2_with fail
          refine (ci _).mono ?_
          rintro e W5 ⟨rfl, rfl⟩
          clear ci
          have HW := Lib.hid hw9
          have HXV := Lib.hid hx9
          clear hw9 hx9 HX HC0 HC1 HC2 HC3 HBW ck cn d0 HBAD
          go_wp2
          go_loopw [3] (fun i wr => ∃ j : Nat, j ≤ m ∧ i = .int .i64 j ∧ ks.shpTo j = true ∧ Below w.heap.size w wr ∧ Boxed wr w.heap.size 10 [] n A m c) (fun i _ => m - (intOf i).toNat)
          case atStart => exact ⟨0, Nat.zero_le _, rfl, by cases ks <;> rfl, HW.out, HXV.out⟩
          case round =>
            clear HW HXV
            obtain ⟨j, hj, rfl, hsh, hbw, hbx⟩ := hrel
            have HB := Lib.hid hbw
            have HX := Lib.hid hbx
            have HSH := Lib.hid hsh
            clear hbw hsh hbx
            have k3 := HX.out.2.2.2.2
            by_cases hlt : j < m
            · have hlt2 : j < ks.len := by rw [HM.out]; exact hlt
              obtain ⟨b, off, rfl, _, hb⟩ := HAT.out (by omega)
              obtain ⟨u, hu, hc0, hc1, hc2, hc3⟩ := HG.out b off rfl j hlt2
              replace hc0 := (HB.out.cell (p := ⟨b, off + j * 4, none⟩) hb).trans hc0
              replace hc1 := (HB.out.cell (p := ⟨b, off + j * 4 + 1, none⟩) hb).trans hc1
              replace hc2 := (HB.out.cell (p := ⟨b, off + j * 4 + 2, none⟩) hb).trans hc2
              replace hc3 := (HB.out.cell (p := ⟨b, off + j * 4 + 3, none⟩) hb).trans hc3
              obtain ⟨A2, m2, c2, rfl, -⟩ := hu.open'
              have cr := fun W hb => HIH.out W j hlt hb _ hu
              have hs := HSS.out j hlt2
              rw [HSH.out, Bool.true_and] at hs
              have hno := HSN.out (j + 1)
              generalize (ks.get j).fo.shp = z at *
              generalize (ks.get j).1 = kk at *
              generalize (ks.get j).2.1 = knm at *
              generalize (ks.get j).2.2.1 = kn' at *
              have HS2 := Lib.hid hs
              have HNO2 := Lib.hid hno
              clear hs hno hu HIH HG HAT HSS HSN HSE
              cases z
              · have HR := Lib.hid (show T = false by rw [HFS.out, HOK.out]; exact HNO2.out HS2.out)
                go_wp2_with fail
                refine (cr _ HB.out).mono ?_
                rintro e W5 ⟨rfl, hn⟩
                have HW5 := Lib.hid (HB.out.trans (hn.mono HB.out.size))
                clear hn cr hc0 hc1 hc2 hc3 k3
                go_wp2_with fail
                go_ret
                exact ⟨by rw [HR.out]; rfl, HW5.out⟩
              · go_wp2_with fail
                refine (cr _ HB.out).mono ?_
                rintro e W5 ⟨rfl, hn⟩
                have HW5 := Lib.hid (HB.out.trans (hn.mono HB.out.size))
                have HX5 := Lib.hid (HX.out.below hn)
                clear hn cr hc0 hc1 hc2 hc3 k3
                go_wp2_with fail
                go_roundw
                case rel => exact ⟨j + 1, by omega, by go_num, HS2.out, HW5.out, HX5.out⟩
                case measure => simp [intOf]; omega
            · have hjm : j = m := by omega
              subst hjm
              have HR := Lib.hid (show T = true by rw [HFS.out, HOK.out]; show ks.shp = true; rw [← HSE.out, HM.out]; exact HSH.out)
              clear HG HAT HIH HSS HSN HSE
              go_wp2
              go_ret
              exact ⟨by rw [HR.out]; rfl, HB.out⟩
    · have dk3 : (k == 10) = false := by rw [beq_eq_false_iff_ne]; exact hk10
      have dk4 : (k != 10) = true := by rw [bne, dk3]; rfl
      rw [if_neg hk10] at ho
      clear hk10
      by_cases hn : n = 0
      rotate_left
      · have HR := Lib.hid (HBAD.out (by rw [ho, decide_eq_false hn, Bool.and_false]))
        have dn : (n != 0) = true := by rw [bne_iff_ne]; exact hn
        clear HBAD HFS HSS HSN HSE HIH HG HAT ho hn
        go_enter Tryd.func42, Tryd.ntmps42
        go_upto_region 1 with fail
        rw [← hW3]
        clear hW3
        refine Lex.wp_region_lex (fun w' => Below W3.heap.size W3 w') (fun _ => true)
          [(0, true), (1, true), (3, true), (4, true), (5, true), (2, false), (6, true), (7, true), (8, true), (9, true), (10, true), (11, true), (12, true), (13, true), (14, true), (15, true), (16, true), (17, true), (18, true), (19, true), (20, true), (21, true), (22, true), (23, true), (24, true), (25, true), (26, true)]
          (by kernel_rfl) (by kernel_rfl) (by kernel_rfl) (by kernel_rfl) ⟨rfl, rfl, rfl, Nat.le_refl _, fun _ _ => rfl⟩ ?_
        have hb0 : Below W3.heap.size W3 W3.drew := ⟨rfl, rfl, rfl, Nat.le_refl _, fun _ _ => rfl⟩
        have hw0 : Below w.heap.size w W3.drew := ⟨HBW.out.os, HBW.out.tape, HBW.out.output, HBW.out.size, HBW.out.block⟩
        generalize hV0 : W3.drew = V0 at *
        clear hV0
        iterate 5 (refine Lex.lex_take (v := ?_) rfl rfl (by rfl) (fun _ hS => ?_) ?_; rotate_left 1; (focus (have g0 := (hS.cell HC0.out.2).trans HC0.out.1; have g1 := (hS.cell HC1.out.2).trans HC1.out.1; have g2 := (hS.cell HC2.out.2).trans HC2.out.1; have g3 := (hS.cell HC3.out.2).trans HC3.out.1; clear hS; go_simp; with_reducible rfl)); simp only [List.setIfInBounds_toArray, List.set_cons_zero, List.set_cons_succ])
        refine Lex.lex_do rfl ?_
        have cc := ck V0
        go_wp2_with fail
        refine cc.mono ?_
        rintro e V1 ⟨rfl, rfl⟩
        clear cc
        go_wp2_with fail
        refine Lex.lexQ_normal (fun _ => hb0) ?_
        iterate 12 (refine Lex.lex_take (v := ?_) rfl rfl (by rfl) (fun _ hS => ?_) ?_; rotate_left 1; (focus (have g0 := (hS.cell HC0.out.2).trans HC0.out.1; have g1 := (hS.cell HC1.out.2).trans HC1.out.1; have g2 := (hS.cell HC2.out.2).trans HC2.out.1; have g3 := (hS.cell HC3.out.2).trans HC3.out.1; clear hS; go_simp; with_reducible rfl)); simp only [List.setIfInBounds_toArray, List.set_cons_zero, List.set_cons_succ])
        iterate 8 (refine Lex.lex_skip rfl rfl (by rfl) ?_; simp only [List.setIfInBounds_toArray, List.set_cons_zero, List.set_cons_succ])
        refine Lex.lex_take (v := ?_) rfl rfl (by rfl) (fun _ hS => ?_) ?_; rotate_left 1; (focus (have g0 := (hS.cell HC0.out.2).trans HC0.out.1; have g1 := (hS.cell HC1.out.2).trans HC1.out.1; have g2 := (hS.cell HC2.out.2).trans HC2.out.1; have g3 := (hS.cell HC3.out.2).trans HC3.out.1; clear hS; go_simp; with_reducible rfl)); simp only [List.setIfInBounds_toArray, List.set_cons_zero, List.set_cons_succ]
        refine Lex.lex_nil ?_
        go_wp2
        go_ret
        exact ⟨by rw [HR.out]; rfl, hw0⟩
      subst hn
      rw [decide_eq_true rfl, Bool.and_true] at ho
      cases nm with
      | cons a r =>
        have HR := Lib.hid (HBAD.out (by rw [ho, decide_eq_false (by simp)]))
        clear HBAD HFS HSS HSN HSE HIH HG HAT ho
        go_enter Tryd.func42, Tryd.ntmps42
        go_upto_region 1 with fail
        rw [← hW3]
        clear hW3
        refine Lex.wp_region_lex (fun w' => Below W3.heap.size W3 w') (fun _ => true)
          [(0, true), (1, true), (3, true), (4, true), (5, true), (2, false), (6, true), (7, true), (8, true), (9, true), (10, true), (11, true), (12, true), (13, true), (14, true), (15, true), (16, true), (17, true), (18, true), (19, true), (20, true), (21, true), (22, true), (23, true), (24, true), (25, true), (26, true)]
          (by kernel_rfl) (by kernel_rfl) (by kernel_rfl) (by kernel_rfl) ⟨rfl, rfl, rfl, Nat.le_refl _, fun _ _ => rfl⟩ ?_
        have hb0 : Below W3.heap.size W3 W3.drew := ⟨rfl, rfl, rfl, Nat.le_refl _, fun _ _ => rfl⟩
        have hw0 : Below w.heap.size w W3.drew := ⟨HBW.out.os, HBW.out.tape, HBW.out.output, HBW.out.size, HBW.out.block⟩
        generalize hV0 : W3.drew = V0 at *
        clear hV0
        iterate 5 (refine Lex.lex_take (v := ?_) rfl rfl (by rfl) (fun _ hS => ?_) ?_; rotate_left 1; (focus (have g0 := (hS.cell HC0.out.2).trans HC0.out.1; have g1 := (hS.cell HC1.out.2).trans HC1.out.1; have g2 := (hS.cell HC2.out.2).trans HC2.out.1; have g3 := (hS.cell HC3.out.2).trans HC3.out.1; clear hS; go_simp; with_reducible rfl)); simp only [List.setIfInBounds_toArray, List.set_cons_zero, List.set_cons_succ])
        refine Lex.lex_do rfl ?_
        have cc := ck V0
        go_wp2_with fail
        refine cc.mono ?_
        rintro e V1 ⟨rfl, rfl⟩
        clear cc
        go_wp2_with fail
        refine Lex.lexQ_normal (fun _ => hb0) ?_
        iterate 21 (refine Lex.lex_take (v := ?_) rfl rfl (by rfl) (fun _ hS => ?_) ?_; rotate_left 1; (focus (have g0 := (hS.cell HC0.out.2).trans HC0.out.1; have g1 := (hS.cell HC1.out.2).trans HC1.out.1; have g2 := (hS.cell HC2.out.2).trans HC2.out.1; have g3 := (hS.cell HC3.out.2).trans HC3.out.1; clear hS; go_simp; with_reducible rfl)); simp only [List.setIfInBounds_toArray, List.set_cons_zero, List.set_cons_succ])
        refine Lex.lex_nil ?_
        go_wp2
        go_ret
        exact ⟨by rw [HR.out]; rfl, hw0⟩
      | nil =>
        have HOK := Lib.hid (show okN k [] 0 ks.len = true by rw [ho]; rfl)
        clear ho
        go_enter Tryd.func42, Tryd.ntmps42
        go_upto_region 1 with fail
        rw [← hW3]
        clear hW3
        refine Lex.wp_region_lex (fun w' => Below W3.heap.size W3 w') (fun _ => true)
          [(0, true), (1, true), (3, true), (4, true), (5, true), (2, false), (6, true), (7, true), (8, true), (9, true), (10, true), (11, true), (12, true), (13, true), (14, true), (15, true), (16, true), (17, true), (18, true), (19, true), (20, true), (21, true), (22, true), (23, true), (24, true), (25, true), (26, true)]
          (by kernel_rfl) (by kernel_rfl) (by kernel_rfl) (by kernel_rfl) ⟨rfl, rfl, rfl, Nat.le_refl _, fun _ _ => rfl⟩ ?_
        have hb0 : Below W3.heap.size W3 W3.drew := ⟨rfl, rfl, rfl, Nat.le_refl _, fun _ _ => rfl⟩
        have hw0 : Below w.heap.size w W3.drew := ⟨HBW.out.os, HBW.out.tape, HBW.out.output, HBW.out.size, HBW.out.block⟩
        generalize hV0 : W3.drew = V0 at *
        clear hV0
        iterate 5 (refine Lex.lex_take (v := ?_) rfl rfl (by rfl) (fun _ hS => ?_) ?_; rotate_left 1; (focus (have g0 := (hS.cell HC0.out.2).trans HC0.out.1; have g1 := (hS.cell HC1.out.2).trans HC1.out.1; have g2 := (hS.cell HC2.out.2).trans HC2.out.1; have g3 := (hS.cell HC3.out.2).trans HC3.out.1; clear hS; go_simp; with_reducible rfl)); simp only [List.setIfInBounds_toArray, List.set_cons_zero, List.set_cons_succ])
        refine Lex.lex_do rfl ?_
        have cc := ck V0
        go_wp2_with fail
        refine cc.mono ?_
        rintro e V1 ⟨rfl, rfl⟩
        clear cc
        go_wp2_with fail
        refine Lex.lexQ_normal (fun _ => hb0) ?_
        iterate 21 (refine Lex.lex_take (v := ?_) rfl rfl (by rfl) (fun _ hS => ?_) ?_; rotate_left 1; (focus (have g0 := (hS.cell HC0.out.2).trans HC0.out.1; have g1 := (hS.cell HC1.out.2).trans HC1.out.1; have g2 := (hS.cell HC2.out.2).trans HC2.out.1; have g3 := (hS.cell HC3.out.2).trans HC3.out.1; clear hS; go_simp; with_reducible rfl)); simp only [List.setIfInBounds_toArray, List.set_cons_zero, List.set_cons_succ])
        refine Lex.lex_nil ?_
        have k0 := (HX.out.below hb0).2.1
        have hx9 := HX.out.below hb0
        have hw9 := hw0
        clear hw0 hb0
        have HW := Lib.hid hw9
        have HXV := Lib.hid hx9
        clear hw9 hx9 HX HC0 HC1 HC2 HC3 HBW ck cn d0 HBAD
        go_wp2
        go_loopw [3] (fun i wr => ∃ j : Nat, j ≤ m ∧ i = .int .i64 j ∧ ks.shpTo j = true ∧ Below w.heap.size w wr ∧ Boxed wr w.heap.size k [] 0 A m c) (fun i _ => m - (intOf i).toNat)
        case atStart => exact ⟨0, Nat.zero_le _, rfl, by cases ks <;> rfl, HW.out, HXV.out⟩
        case round =>
          clear HW HXV
          obtain ⟨j, hj, rfl, hsh, hbw, hbx⟩ := hrel
          have HB := Lib.hid hbw
          have HX := Lib.hid hbx
          have HSH := Lib.hid hsh
          clear hbw hsh hbx
          have k3 := HX.out.2.2.2.2
          by_cases hlt : j < m
          · have hlt2 : j < ks.len := by rw [HM.out]; exact hlt
            obtain ⟨b, off, rfl, _, hb⟩ := HAT.out (by omega)
            obtain ⟨u, hu, hc0, hc1, hc2, hc3⟩ := HG.out b off rfl j hlt2
            replace hc0 := (HB.out.cell (p := ⟨b, off + j * 4, none⟩) hb).trans hc0
            replace hc1 := (HB.out.cell (p := ⟨b, off + j * 4 + 1, none⟩) hb).trans hc1
            replace hc2 := (HB.out.cell (p := ⟨b, off + j * 4 + 2, none⟩) hb).trans hc2
            replace hc3 := (HB.out.cell (p := ⟨b, off + j * 4 + 3, none⟩) hb).trans hc3
            obtain ⟨A2, m2, c2, rfl, -⟩ := hu.open'
            have cr := fun W hb => HIH.out W j hlt hb _ hu
            have hs := HSS.out j hlt2
            rw [HSH.out, Bool.true_and] at hs
            have hno := HSN.out (j + 1)
            generalize (ks.get j).fo.shp = z at *
            generalize (ks.get j).1 = kk at *
            generalize (ks.get j).2.1 = knm at *
            generalize (ks.get j).2.2.1 = kn' at *
            have HS2 := Lib.hid hs
            have HNO2 := Lib.hid hno
            clear hs hno hu HIH HG HAT HSS HSN HSE
            cases z
            · have HR := Lib.hid (show T = false by rw [HFS.out, HOK.out]; exact HNO2.out HS2.out)
              go_wp2_with fail
              refine (cr _ HB.out).mono ?_
              rintro e W5 ⟨rfl, hn⟩
              have HW5 := Lib.hid (HB.out.trans (hn.mono HB.out.size))
              clear hn cr hc0 hc1 hc2 hc3 k3
              go_wp2_with fail
              go_ret
              exact ⟨by rw [HR.out]; rfl, HW5.out⟩
            · go_wp2_with fail
              refine (cr _ HB.out).mono ?_
              rintro e W5 ⟨rfl, hn⟩
              have HW5 := Lib.hid (HB.out.trans (hn.mono HB.out.size))
              have HX5 := Lib.hid (HX.out.below hn)
              clear hn cr hc0 hc1 hc2 hc3 k3
              go_wp2_with fail
              go_roundw
              case rel => exact ⟨j + 1, by omega, by go_num, HS2.out, HW5.out, HX5.out⟩
              case measure => simp [intOf]; omega
          · have hjm : j = m := by omega
            subst hjm
            have HR := Lib.hid (show T = true by rw [HFS.out, HOK.out]; show ks.shp = true; rw [← HSE.out, HM.out]; exact HSH.out)
            clear HG HAT HIH HSS HSN HSE
            go_wp2
            go_ret
            exact ⟨by rw [HR.out]; rfl, HB.out⟩
theorem shaped_any : ∀ (N : Nat), ShapedOk N
  | 0 => fun _ _ _ _ h => absurd h (by omega)
  | N + 1 => shaped_step N (shaped_any N)
end Go.Proofs.YtobpacebpiabcaaDoor
