/- ref's Text: its contract (printed by expand.py). -/
import Derived.Test.YtobpacebpiabcaaDoorFa
import Derived.Test.YtobpacebpiabcaaDoorBu
namespace Go.Proofs.YtobpacebpiabcaaDoor
open Go.RowKit Go.Lib

def RTextOk (N : Nat) : Prop := ∀ (t : Tm) (S : Nat → Prop) (v : Value) (w : World), t.2.2.2.cnt < N → TmV S w v t → t.fo.shp = true → t.fo.cnt ≤ 5000 → Calls Tryd.prog 50 #[v] w (RetW (.string ⟨t.tx.toArray⟩) w)
set_option maxRecDepth 100000 in
set_option maxHeartbeats 12800000 in
theorem rtext_step (N : Nat) (IH : RTextOk N) : RTextOk (N + 1) := by
  intro t S v w hN hv hs hc
  obtain ⟨u, rfl, hu⟩ := hv
  obtain ⟨k, nm, n, ks⟩ := t
  obtain ⟨A, m, c, rfl, hm, hmc, hcm, hks⟩ := hu.open'
  dsimp only at *
  have hsh := hs
  rw [fo_shp, Bool.and_eq_true] at hsh
  have hcn : ks.cnt + 1 ≤ 5000 := by have := fo_cnt (k, nm, n, ks); dsimp only at this; omega
  have HIH := Lib.hid (show ∀ W j (_ : j < m) (_ : Below w.heap.size w W) u (_ : KidsV S w u (ks.get j).2.2.2), Calls Tryd.prog 50 #[.agg #[.int .i64 (ks.get j).1, .string ⟨(ks.get j).2.1.toArray⟩, .int .i64 (ks.get j).2.2.1, u]] W (RetW (.string ⟨(ks.get j).tx.toArray⟩) W) from
    fun W j hj hb u hu => IH (ks.get j) S _ W (by have := Fo.get_cnt ks j (by omega); omega) ⟨u, rfl, hu.below hb⟩ (Fo.shp_get ks j hsh.2 (by omega)) (by rw [fo_cnt]; have := Fo.get_cnt ks j (by omega); omega))
  have hlen : ∀ j, j < m → (ks.get j).tx.length ≤ 100000 := fun j hj => by
    have h1 := tx_len (Fo.shp_get ks j hsh.2 (by omega))
    have h2 := Fo.get_cnt ks j (by omega)
    rw [fo_cnt] at h1
    omega
  have hk := kids_is hsh.1
  rw [hm] at hk
  dsimp only at hk
  obtain ⟨W3, hW3⟩ : ∃ W3, W3 = w.alloc (.cells #[.int .i64 k, .string ⟨nm.toArray⟩, .int .i64 n, .slice A m c] 26) := ⟨_, rfl⟩
  have HBW := Lib.hid (show Below w.heap.size w W3 by rw [hW3]; exact (Below.refl _ _).alloc (Nat.le_refl _) _)
  have HX := Lib.hid (show Blk W3 w.heap.size #[.int .i64 k, .string ⟨nm.toArray⟩, .int .i64 n, .slice A m c] 26 by rw [hW3]; exact Blk.new _ _ _)
  have k0 := HX.out.cell 0
  have htx : Tm.tx (k, nm, n, ks) = nodeT k nm n ks.txts := rfl
  have HK1 := Lib.hid (fun h : 0 < m => hks.cells0 (by omega))
  have HKG := Lib.hid (fun b off (e : A = some ⟨b, off, none⟩) j (hj : j < ks.len) => KidsAt.get (b := b) (off := off) (i := j) (show KidsAt S w (some ⟨b, off, none⟩) ks by rw [← e]; exact hks) hj)
  have HT0 := Lib.hid (fun h : 0 < m => Fo.txts_get ks 0 (by omega))
  have HT1 := Lib.hid (fun h : 1 < m => Fo.txts_get ks 1 (by omega))
  have HII := Lib.hid (fun (h1 : 0 ≤ n) (h2 : n ≤ 1000000) => itoa_len h1 h2)
  have HLN := Lib.hid hlen
  have HM := Lib.hid hm
  have HS := Lib.hid (show sp = [32] from rfl)
  rw [htx]
  clear IH hks hu hs hsh hlen htx hm hN
  unfold maxLen at hcm
  rcases hk with ⟨rfl, rfl, rfl, rfl⟩ | ⟨rfl, rfl, hnm, rfl⟩ | ⟨hk, rfl, rfl, rfl⟩ | ⟨rfl, rfl, rfl, hn0, hn1⟩ | ⟨hk, rfl, rfl, rfl⟩
  · have HR := Lib.hid (show nodeT 1 [] 0 ks.txts = [116, 114, 117, 101] from rfl)
    clear HK1 HKG HT0 HT1
    go_enter Tryd.func50, Tryd.ntmps50
    go_upto_region 1 with fail
    rw [← hW3]
    clear hW3
    go_wp2
    go_ret
    exact ⟨by rw [HR.out]; rfl, HBW.out⟩
  · have HR := Lib.hid (show nodeT 2 nm 0 ks.txts = nm from rfl)
    have k1 := HX.out.cell 1
    clear HK1 HKG HT0 HT1
    go_enter Tryd.func50, Tryd.ntmps50
    go_upto_region 1 with fail
    rw [← hW3]
    clear hW3
    go_wp2
    go_ret
    exact ⟨by rw [HR.out]; rfl, HBW.out⟩
  · obtain ⟨b, off, u, rfl, hku, c0, c1, c2, c3⟩ := HK1.out (by omega)
    obtain ⟨A2, m2, c2', rfl, -⟩ := hku.open'
    have HT := Lib.hid (HT0.out (by omega))
    have blt : b < w.heap.size := World.block_lt_of_cell? w ⟨b, off, none⟩ c0
    have hl0 := HLN.out 0 (by omega)
    have cc := HIH.out W3 0 (by omega) HBW.out _ hku
    replace c0 := (HBW.out.cell (p := ⟨b, off, none⟩) blt).trans c0
    replace c1 := (HBW.out.cell (p := ⟨b, off + 1, none⟩) blt).trans c1
    replace c2 := (HBW.out.cell (p := ⟨b, off + 2, none⟩) blt).trans c2
    replace c3 := (HBW.out.cell (p := ⟨b, off + 3, none⟩) blt).trans c3
    have k3 := HX.out.cell 3
    clear HKG HIH hku HT0 HT1 HK1 HLN
    rcases hk with rfl | rfl | rfl | rfl
    · have HR := Lib.hid (show nodeT 3 [] 0 ks.txts = [110, 111, 116, 32] ++ (ks.get 0).tx by rw [← HT.out]; rfl)
      generalize (ks.get 0).tx = tx at *
      have z1 : ¬ 9223372036854775807 < 4 + tx.length := by omega
      rw [HR.out]
      clear HR HT
      generalize (ks.get 0).1 = ka at *
      generalize (ks.get 0).2.1 = kb at *
      generalize (ks.get 0).2.2.1 = kc at *
      go_enter Tryd.func50, Tryd.ntmps50
      go_upto_region 1 with fail
      rw [← hW3]
      clear hW3
      go_wp2_with fail
      refine cc.mono ?_
      rintro e W4 ⟨rfl, hb⟩
      have HB4 := Lib.hid (HBW.out.trans (hb.mono HBW.out.size))
      clear cc hb
      go_wp2_with fail
      go_ret
      exact ⟨rfl, HB4.out⟩
    · have HR := Lib.hid (show nodeT 6 [] 0 ks.txts = [112, 114, 101, 118, 32] ++ (ks.get 0).tx by rw [← HT.out]; rfl)
      generalize (ks.get 0).tx = tx at *
      have z1 : ¬ 9223372036854775807 < 5 + tx.length := by omega
      rw [HR.out]
      clear HR HT
      generalize (ks.get 0).1 = ka at *
      generalize (ks.get 0).2.1 = kb at *
      generalize (ks.get 0).2.2.1 = kc at *
      go_enter Tryd.func50, Tryd.ntmps50
      go_upto_region 1 with fail
      rw [← hW3]
      clear hW3
      go_wp2_with fail
      refine cc.mono ?_
      rintro e W4 ⟨rfl, hb⟩
      have HB4 := Lib.hid (HBW.out.trans (hb.mono HBW.out.size))
      clear cc hb
      go_wp2_with fail
      go_ret
      exact ⟨rfl, HB4.out⟩
    · have HR := Lib.hid (show nodeT 7 [] 0 ks.txts = [111, 110, 99, 101, 32] ++ (ks.get 0).tx by rw [← HT.out]; rfl)
      generalize (ks.get 0).tx = tx at *
      have z1 : ¬ 9223372036854775807 < 5 + tx.length := by omega
      rw [HR.out]
      clear HR HT
      generalize (ks.get 0).1 = ka at *
      generalize (ks.get 0).2.1 = kb at *
      generalize (ks.get 0).2.2.1 = kc at *
      go_enter Tryd.func50, Tryd.ntmps50
      go_upto_region 1 with fail
      rw [← hW3]
      clear hW3
      go_wp2_with fail
      refine cc.mono ?_
      rintro e W4 ⟨rfl, hb⟩
      have HB4 := Lib.hid (HBW.out.trans (hb.mono HBW.out.size))
      clear cc hb
      go_wp2_with fail
      go_ret
      exact ⟨rfl, HB4.out⟩
    · have HR := Lib.hid (show nodeT 8 [] 0 ks.txts = [97, 108, 119, 97, 121, 115, 32] ++ (ks.get 0).tx by rw [← HT.out]; rfl)
      generalize (ks.get 0).tx = tx at *
      have z1 : ¬ 9223372036854775807 < 7 + tx.length := by omega
      rw [HR.out]
      clear HR HT
      generalize (ks.get 0).1 = ka at *
      generalize (ks.get 0).2.1 = kb at *
      generalize (ks.get 0).2.2.1 = kc at *
      go_enter Tryd.func50, Tryd.ntmps50
      go_upto_region 1 with fail
      rw [← hW3]
      clear hW3
      go_wp2_with fail
      refine cc.mono ?_
      rintro e W4 ⟨rfl, hb⟩
      have HB4 := Lib.hid (HBW.out.trans (hb.mono HBW.out.size))
      clear cc hb
      go_wp2_with fail
      go_ret
      exact ⟨rfl, HB4.out⟩
  · obtain ⟨b, off, u, rfl, hku, c0, c1, c2, c3⟩ := HK1.out (by omega)
    obtain ⟨A2, m2, c2', rfl, -⟩ := hku.open'
    have HT := Lib.hid (HT0.out (by omega))
    have blt : b < w.heap.size := World.block_lt_of_cell? w ⟨b, off, none⟩ c0
    have hl0 := HLN.out 0 (by omega)
    have il := HII.out hn0 hn1
    have HCC := Lib.hid (fun W hb => HIH.out W 0 (by omega) hb _ hku)
    obtain ⟨u0, rfl⟩ := Int.eq_ofNat_of_zero_le hn0
    have hit : Lib.itoa ((u0 : Nat) : Int) = decDigits u0 := by unfold Lib.itoa; rw [if_neg (by omega)]; simp
    have HR := Lib.hid (show nodeT 10 [] ((u0 : Nat) : Int) ks.txts = 119 :: 105 :: 116 :: 104 :: 105 :: 110 :: 32 :: (decDigits u0 ++ (sp ++ (ks.get 0).tx)) by
      rw [← HT.out, ← hit]
      show wWithin ++ sp ++ Lib.itoa ((u0 : Nat) : Int) ++ sp ++ ks.txts.getD 0 [] = _
      simp [wWithin, sp])
    rw [hit] at il
    have HNU := Lib.hid (fun W => number_any u0 W (by omega))
    have HC0 := Lib.hid (And.intro ((HBW.out.cell (p := ⟨b, off, none⟩) blt).trans c0) (Nat.lt_of_lt_of_le blt HBW.out.size))
    have HC1 := Lib.hid (And.intro ((HBW.out.cell (p := ⟨b, off + 1, none⟩) blt).trans c1) (Nat.lt_of_lt_of_le blt HBW.out.size))
    have HC2 := Lib.hid (And.intro ((HBW.out.cell (p := ⟨b, off + 2, none⟩) blt).trans c2) (Nat.lt_of_lt_of_le blt HBW.out.size))
    have HC3 := Lib.hid (And.intro ((HBW.out.cell (p := ⟨b, off + 3, none⟩) blt).trans c3) (Nat.lt_of_lt_of_le blt HBW.out.size))
    have HN2 := Lib.hid (And.intro (HX.out.cell 2) HX.out.lt)
    have HN3 := Lib.hid (And.intro (HX.out.cell 3) HX.out.lt)
    rw [HR.out]
    clear c0 c1 c2 c3 HKG HIH hku HT0 HT1 HK1 HLN HII hit HR HT
    generalize decDigits u0 = ti at *
    generalize (ks.get 0).tx = tx at *
    generalize (ks.get 0).1 = ka at *
    generalize (ks.get 0).2.1 = kb at *
    generalize (ks.get 0).2.2.1 = kc at *
    have z1 : ¬ 9223372036854775807 < 7 + ti.length := by omega
    have z2 : ¬ 9223372036854775807 < 7 + ti.length + 1 := by omega
    have z3 : ¬ 9223372036854775807 < 7 + ti.length + 1 + tx.length := by omega
    go_enter Tryd.func50, Tryd.ntmps50
    go_upto_region 1 with fail
    rw [← hW3]
    clear hW3
    go_upto_region 15 with fail
    clear k0
    refine Lex.wp_region_lex (fun w' => Below W3.heap.size W3 w') (fun _ => true)
      [(0, true), (1, true), (5, true), (6, true), (7, true), (8, true), (2, false), (3, true), (4, true), (9, false), (10, true), (11, false)]
      (by kernel_rfl) (by kernel_rfl) (by kernel_rfl) (by kernel_rfl) ⟨rfl, rfl, rfl, Nat.le_refl _, fun _ _ => rfl⟩ ?_
    have hb0 : Below W3.heap.size W3 W3.drew := ⟨rfl, rfl, rfl, Nat.le_refl _, fun _ _ => rfl⟩
    have hw0 : Below w.heap.size w W3.drew := ⟨HBW.out.os, HBW.out.tape, HBW.out.output, HBW.out.size, HBW.out.block⟩
    generalize hV0 : W3.drew = V0 at *
    clear hV0
    iterate 6 (refine Lex.lex_take (v := ?_) rfl rfl (by rfl) (fun _ hS => ?_) ?_; rotate_left 1; (focus (have g0 := (hS.cell HN2.out.2).trans HN2.out.1; have g1 := (hS.cell HN3.out.2).trans HN3.out.1; have g2 := (hS.cell HC0.out.2).trans HC0.out.1; have g3 := (hS.cell HC1.out.2).trans HC1.out.1; have g4 := (hS.cell HC2.out.2).trans HC2.out.1; have g5 := (hS.cell HC3.out.2).trans HC3.out.1; clear hS; go_simp; with_reducible rfl)); simp only [List.setIfInBounds_toArray, List.set_cons_zero, List.set_cons_succ])
    refine Lex.lex_do rfl ?_
    have cc := HNU.out V0
    go_wp2_with fail
    refine cc.mono ?_
    rintro e V1 ⟨rfl, hn1⟩
    have hb1 := hb0.trans (hn1.mono hb0.size)
    have hw1 := hw0.trans (hn1.mono hw0.size)
    clear cc hb0 hw0
    clear hn1
    go_wp2_with fail
    refine Lex.lexQ_normal (fun _ => hb1) ?_
    iterate 2 (refine Lex.lex_take (v := ?_) rfl rfl (by rfl) (fun _ hS => ?_) ?_; rotate_left 1; (focus (have g0 := (hS.cell HN2.out.2).trans HN2.out.1; have g1 := (hS.cell HN3.out.2).trans HN3.out.1; have g2 := (hS.cell HC0.out.2).trans HC0.out.1; have g3 := (hS.cell HC1.out.2).trans HC1.out.1; have g4 := (hS.cell HC2.out.2).trans HC2.out.1; have g5 := (hS.cell HC3.out.2).trans HC3.out.1; clear hS; go_simp; with_reducible rfl)); simp only [List.setIfInBounds_toArray, List.set_cons_zero, List.set_cons_succ])
    refine Lex.lex_do rfl ?_
    have cc := HCC.out V1 hw1
    go_wp2_with fail
    refine cc.mono ?_
    rintro e V2 ⟨rfl, hn2⟩
    have hb2 := hb1.trans (hn2.mono hb1.size)
    have hw2 := hw1.trans (hn2.mono hw1.size)
    clear cc hb1 hw1
    clear hn2
    go_wp2_with fail
    refine Lex.lexQ_normal (fun _ => hb2) ?_
    refine Lex.lex_take (v := ?_) rfl rfl (by rfl) (fun _ hS => ?_) ?_; rotate_left 1; (focus (have g0 := (hS.cell HN2.out.2).trans HN2.out.1; have g1 := (hS.cell HN3.out.2).trans HN3.out.1; have g2 := (hS.cell HC0.out.2).trans HC0.out.1; have g3 := (hS.cell HC1.out.2).trans HC1.out.1; have g4 := (hS.cell HC2.out.2).trans HC2.out.1; have g5 := (hS.cell HC3.out.2).trans HC3.out.1; clear hS; go_simp; with_reducible rfl)); simp only [List.setIfInBounds_toArray, List.set_cons_zero, List.set_cons_succ]
    refine Lex.lex_do rfl ?_
    go_wp2_with fail
    refine Lex.lexQ_normal (fun _ => hb2) ?_
    refine Lex.lex_nil ?_
    have HF := Lib.hid hw2
    go_wp2
    go_ret
    refine ⟨?_, HF.out⟩
    rw [HS.out]
    simp
    apply ByteArray.ext
    simp
  · obtain ⟨b, off, u, rfl, hku, c0, c1, c2, c3⟩ := HK1.out (by omega)
    obtain ⟨A2, m2, c2', rfl, -⟩ := hku.open'
    obtain ⟨u', hku', d0, d1, d2, d3⟩ := HKG.out b off rfl 1 (by rw [HM.out]; omega)
    obtain ⟨A3, m3, c3', rfl, -⟩ := hku'.open'
    rw [Nat.one_mul] at d0 d1 d2 d3
    have HT := Lib.hid (HT0.out (by omega))
    have HT' := Lib.hid (HT1.out (by omega))
    have blt : b < w.heap.size := World.block_lt_of_cell? w ⟨b, off, none⟩ c0
    have hl0 := HLN.out 0 (by omega)
    have hl1 := HLN.out 1 (by omega)
    have HCC := Lib.hid (fun W hb => HIH.out W 0 (by omega) hb _ hku)
    have HCD := Lib.hid (fun W hb => HIH.out W 1 (by omega) hb _ hku')
    have HC0 := Lib.hid (And.intro ((HBW.out.cell (p := ⟨b, off, none⟩) blt).trans c0) (Nat.lt_of_lt_of_le blt HBW.out.size))
    have HC1 := Lib.hid (And.intro ((HBW.out.cell (p := ⟨b, off + 1, none⟩) blt).trans c1) (Nat.lt_of_lt_of_le blt HBW.out.size))
    have HC2 := Lib.hid (And.intro ((HBW.out.cell (p := ⟨b, off + 2, none⟩) blt).trans c2) (Nat.lt_of_lt_of_le blt HBW.out.size))
    have HC3 := Lib.hid (And.intro ((HBW.out.cell (p := ⟨b, off + 3, none⟩) blt).trans c3) (Nat.lt_of_lt_of_le blt HBW.out.size))
    have HD0 := Lib.hid (And.intro ((HBW.out.cell (p := ⟨b, off + 4, none⟩) blt).trans d0) (Nat.lt_of_lt_of_le blt HBW.out.size))
    have HD1 := Lib.hid (And.intro ((HBW.out.cell (p := ⟨b, off + 4 + 1, none⟩) blt).trans d1) (Nat.lt_of_lt_of_le blt HBW.out.size))
    have HD2 := Lib.hid (And.intro ((HBW.out.cell (p := ⟨b, off + 4 + 2, none⟩) blt).trans d2) (Nat.lt_of_lt_of_le blt HBW.out.size))
    have HD3 := Lib.hid (And.intro ((HBW.out.cell (p := ⟨b, off + 4 + 3, none⟩) blt).trans d3) (Nat.lt_of_lt_of_le blt HBW.out.size))
    have HN3 := Lib.hid (And.intro (HX.out.cell 3) HX.out.lt)
    clear c0 c1 c2 c3 d0 d1 d2 d3 HKG HIH hku hku' HT0 HT1 HK1 HLN HII
    have HR := Lib.hid (show ∀ kk wd, (wd, kk) = (wAnd, 4) ∨ (wd, kk) = (wOr, 5) ∨ (wd, kk) = (wSince, 9) → nodeT kk [] 0 ks.txts = [40] ++ (ks.get 0).tx ++ (sp ++ wd ++ sp) ++ (ks.get 1).tx ++ [41] from fun kk wd h => by
      rw [← HT.out, ← HT'.out]
      rcases h with e | e | e <;> (injection e with e1 e2; subst e1 e2; simp [nodeT]))
    rcases hk with rfl | rfl | rfl
    · have HR2 := Lib.hid (show nodeT 4 [] 0 ks.txts = [40] ++ (ks.get 0).tx ++ [32, 97, 110, 100, 32] ++ (ks.get 1).tx ++ [41] from HR.out 4 wAnd (by simp))
      rw [HR2.out]
      clear HR HR2 HT HT'
      generalize (ks.get 0).tx = tx at *
      generalize (ks.get 1).tx = ty at *
      generalize (ks.get 0).1 = ka at *
      generalize (ks.get 0).2.1 = kb at *
      generalize (ks.get 0).2.2.1 = kc at *
      generalize (ks.get 1).1 = la at *
      generalize (ks.get 1).2.1 = lb at *
      generalize (ks.get 1).2.2.1 = lc at *
      have z1 : ¬ 9223372036854775807 < 1 + tx.length := by omega
      have z2 : ¬ 9223372036854775807 < 1 + tx.length + 5 := by omega
      have z3 : ¬ 9223372036854775807 < 1 + tx.length + 5 + ty.length := by omega
      have z4 : ¬ 9223372036854775807 < 1 + tx.length + 5 + ty.length + 1 := by omega
      go_enter Tryd.func50, Tryd.ntmps50
      go_upto_region 1 with fail
      rw [← hW3]
      clear hW3
      go_upto_region 17 with fail
      clear k0
      refine Lex.wp_region_lex (fun w' => Below W3.heap.size W3 w') (fun _ => true)
        [(0, true), (1, true), (2, true), (3, true), (7, true), (8, true), (9, true), (10, true), (4, false), (5, true), (6, true), (11, false), (12, true), (13, true), (14, false)]
        (by kernel_rfl) (by kernel_rfl) (by kernel_rfl) (by kernel_rfl) ⟨rfl, rfl, rfl, Nat.le_refl _, fun _ _ => rfl⟩ ?_
      have hb0 : Below W3.heap.size W3 W3.drew := ⟨rfl, rfl, rfl, Nat.le_refl _, fun _ _ => rfl⟩
      have hw0 : Below w.heap.size w W3.drew := ⟨HBW.out.os, HBW.out.tape, HBW.out.output, HBW.out.size, HBW.out.block⟩
      generalize hV0 : W3.drew = V0 at *
      clear hV0
      iterate 8 (refine Lex.lex_take (v := ?_) rfl rfl (by rfl) (fun _ hS => ?_) ?_; rotate_left 1; (focus (have g0 := (hS.cell HN3.out.2).trans HN3.out.1; have g1 := (hS.cell HC0.out.2).trans HC0.out.1; have g2 := (hS.cell HC1.out.2).trans HC1.out.1; have g3 := (hS.cell HC2.out.2).trans HC2.out.1; have g4 := (hS.cell HC3.out.2).trans HC3.out.1; have g5 := (hS.cell HD0.out.2).trans HD0.out.1; have g6 := (hS.cell HD1.out.2).trans HD1.out.1; have g7 := (hS.cell HD2.out.2).trans HD2.out.1; have g8 := (hS.cell HD3.out.2).trans HD3.out.1; clear hS; go_simp; with_reducible rfl)); simp only [List.setIfInBounds_toArray, List.set_cons_zero, List.set_cons_succ])
      refine Lex.lex_do rfl ?_
      have cc := HCC.out V0 hw0
      go_wp2_with fail
      refine cc.mono ?_
      rintro e V1 ⟨rfl, hn1⟩
      have hb1 := hb0.trans (hn1.mono hb0.size)
      have hw1 := hw0.trans (hn1.mono hw0.size)
      clear cc hb0 hw0
      clear hn1
      go_wp2_with fail
      refine Lex.lexQ_normal (fun _ => hb1) ?_
      iterate 2 (refine Lex.lex_take (v := ?_) rfl rfl (by rfl) (fun _ hS => ?_) ?_; rotate_left 1; (focus (have g0 := (hS.cell HN3.out.2).trans HN3.out.1; have g1 := (hS.cell HC0.out.2).trans HC0.out.1; have g2 := (hS.cell HC1.out.2).trans HC1.out.1; have g3 := (hS.cell HC2.out.2).trans HC2.out.1; have g4 := (hS.cell HC3.out.2).trans HC3.out.1; have g5 := (hS.cell HD0.out.2).trans HD0.out.1; have g6 := (hS.cell HD1.out.2).trans HD1.out.1; have g7 := (hS.cell HD2.out.2).trans HD2.out.1; have g8 := (hS.cell HD3.out.2).trans HD3.out.1; clear hS; go_simp; with_reducible rfl)); simp only [List.setIfInBounds_toArray, List.set_cons_zero, List.set_cons_succ])
      refine Lex.lex_do rfl ?_
      have cc := HCD.out V1 hw1
      go_wp2_with fail
      refine cc.mono ?_
      rintro e V2 ⟨rfl, hn2⟩
      have hb2 := hb1.trans (hn2.mono hb1.size)
      have hw2 := hw1.trans (hn2.mono hw1.size)
      clear cc hb1 hw1
      clear hn2
      go_wp2_with fail
      refine Lex.lexQ_normal (fun _ => hb2) ?_
      iterate 2 (refine Lex.lex_take (v := ?_) rfl rfl (by rfl) (fun _ hS => ?_) ?_; rotate_left 1; (focus (have g0 := (hS.cell HN3.out.2).trans HN3.out.1; have g1 := (hS.cell HC0.out.2).trans HC0.out.1; have g2 := (hS.cell HC1.out.2).trans HC1.out.1; have g3 := (hS.cell HC2.out.2).trans HC2.out.1; have g4 := (hS.cell HC3.out.2).trans HC3.out.1; have g5 := (hS.cell HD0.out.2).trans HD0.out.1; have g6 := (hS.cell HD1.out.2).trans HD1.out.1; have g7 := (hS.cell HD2.out.2).trans HD2.out.1; have g8 := (hS.cell HD3.out.2).trans HD3.out.1; clear hS; go_simp; with_reducible rfl)); simp only [List.setIfInBounds_toArray, List.set_cons_zero, List.set_cons_succ])
      refine Lex.lex_do rfl ?_
      go_wp2_with fail
      refine Lex.lexQ_normal (fun _ => hb2) ?_
      refine Lex.lex_nil ?_
      have HF := Lib.hid hw2
      go_wp2
      go_ret
      refine ⟨?_, HF.out⟩
      simp
      apply ByteArray.ext
      simp
    · have HR2 := Lib.hid (show nodeT 5 [] 0 ks.txts = [40] ++ (ks.get 0).tx ++ [32, 111, 114, 32] ++ (ks.get 1).tx ++ [41] from HR.out 5 wOr (by simp))
      rw [HR2.out]
      clear HR HR2 HT HT'
      generalize (ks.get 0).tx = tx at *
      generalize (ks.get 1).tx = ty at *
      generalize (ks.get 0).1 = ka at *
      generalize (ks.get 0).2.1 = kb at *
      generalize (ks.get 0).2.2.1 = kc at *
      generalize (ks.get 1).1 = la at *
      generalize (ks.get 1).2.1 = lb at *
      generalize (ks.get 1).2.2.1 = lc at *
      have z1 : ¬ 9223372036854775807 < 1 + tx.length := by omega
      have z2 : ¬ 9223372036854775807 < 1 + tx.length + 4 := by omega
      have z3 : ¬ 9223372036854775807 < 1 + tx.length + 4 + ty.length := by omega
      have z4 : ¬ 9223372036854775807 < 1 + tx.length + 4 + ty.length + 1 := by omega
      go_enter Tryd.func50, Tryd.ntmps50
      go_upto_region 1 with fail
      rw [← hW3]
      clear hW3
      go_upto_region 19 with fail
      clear k0
      refine Lex.wp_region_lex (fun w' => Below W3.heap.size W3 w') (fun _ => true)
        [(0, true), (1, true), (2, true), (3, true), (7, true), (8, true), (9, true), (10, true), (4, false), (5, true), (6, true), (11, false), (12, true), (13, true), (14, false)]
        (by kernel_rfl) (by kernel_rfl) (by kernel_rfl) (by kernel_rfl) ⟨rfl, rfl, rfl, Nat.le_refl _, fun _ _ => rfl⟩ ?_
      have hb0 : Below W3.heap.size W3 W3.drew := ⟨rfl, rfl, rfl, Nat.le_refl _, fun _ _ => rfl⟩
      have hw0 : Below w.heap.size w W3.drew := ⟨HBW.out.os, HBW.out.tape, HBW.out.output, HBW.out.size, HBW.out.block⟩
      generalize hV0 : W3.drew = V0 at *
      clear hV0
      iterate 8 (refine Lex.lex_take (v := ?_) rfl rfl (by rfl) (fun _ hS => ?_) ?_; rotate_left 1; (focus (have g0 := (hS.cell HN3.out.2).trans HN3.out.1; have g1 := (hS.cell HC0.out.2).trans HC0.out.1; have g2 := (hS.cell HC1.out.2).trans HC1.out.1; have g3 := (hS.cell HC2.out.2).trans HC2.out.1; have g4 := (hS.cell HC3.out.2).trans HC3.out.1; have g5 := (hS.cell HD0.out.2).trans HD0.out.1; have g6 := (hS.cell HD1.out.2).trans HD1.out.1; have g7 := (hS.cell HD2.out.2).trans HD2.out.1; have g8 := (hS.cell HD3.out.2).trans HD3.out.1; clear hS; go_simp; with_reducible rfl)); simp only [List.setIfInBounds_toArray, List.set_cons_zero, List.set_cons_succ])
      refine Lex.lex_do rfl ?_
      have cc := HCC.out V0 hw0
      go_wp2_with fail
      refine cc.mono ?_
      rintro e V1 ⟨rfl, hn1⟩
      have hb1 := hb0.trans (hn1.mono hb0.size)
      have hw1 := hw0.trans (hn1.mono hw0.size)
      clear cc hb0 hw0
      clear hn1
      go_wp2_with fail
      refine Lex.lexQ_normal (fun _ => hb1) ?_
      iterate 2 (refine Lex.lex_take (v := ?_) rfl rfl (by rfl) (fun _ hS => ?_) ?_; rotate_left 1; (focus (have g0 := (hS.cell HN3.out.2).trans HN3.out.1; have g1 := (hS.cell HC0.out.2).trans HC0.out.1; have g2 := (hS.cell HC1.out.2).trans HC1.out.1; have g3 := (hS.cell HC2.out.2).trans HC2.out.1; have g4 := (hS.cell HC3.out.2).trans HC3.out.1; have g5 := (hS.cell HD0.out.2).trans HD0.out.1; have g6 := (hS.cell HD1.out.2).trans HD1.out.1; have g7 := (hS.cell HD2.out.2).trans HD2.out.1; have g8 := (hS.cell HD3.out.2).trans HD3.out.1; clear hS; go_simp; with_reducible rfl)); simp only [List.setIfInBounds_toArray, List.set_cons_zero, List.set_cons_succ])
      refine Lex.lex_do rfl ?_
      have cc := HCD.out V1 hw1
      go_wp2_with fail
      refine cc.mono ?_
      rintro e V2 ⟨rfl, hn2⟩
      have hb2 := hb1.trans (hn2.mono hb1.size)
      have hw2 := hw1.trans (hn2.mono hw1.size)
      clear cc hb1 hw1
      clear hn2
      go_wp2_with fail
      refine Lex.lexQ_normal (fun _ => hb2) ?_
      iterate 2 (refine Lex.lex_take (v := ?_) rfl rfl (by rfl) (fun _ hS => ?_) ?_; rotate_left 1; (focus (have g0 := (hS.cell HN3.out.2).trans HN3.out.1; have g1 := (hS.cell HC0.out.2).trans HC0.out.1; have g2 := (hS.cell HC1.out.2).trans HC1.out.1; have g3 := (hS.cell HC2.out.2).trans HC2.out.1; have g4 := (hS.cell HC3.out.2).trans HC3.out.1; have g5 := (hS.cell HD0.out.2).trans HD0.out.1; have g6 := (hS.cell HD1.out.2).trans HD1.out.1; have g7 := (hS.cell HD2.out.2).trans HD2.out.1; have g8 := (hS.cell HD3.out.2).trans HD3.out.1; clear hS; go_simp; with_reducible rfl)); simp only [List.setIfInBounds_toArray, List.set_cons_zero, List.set_cons_succ])
      refine Lex.lex_do rfl ?_
      go_wp2_with fail
      refine Lex.lexQ_normal (fun _ => hb2) ?_
      refine Lex.lex_nil ?_
      have HF := Lib.hid hw2
      go_wp2
      go_ret
      refine ⟨?_, HF.out⟩
      simp
      apply ByteArray.ext
      simp
    · have HR2 := Lib.hid (show nodeT 9 [] 0 ks.txts = [40] ++ (ks.get 0).tx ++ [32, 115, 105, 110, 99, 101, 32] ++ (ks.get 1).tx ++ [41] from HR.out 9 wSince (by simp))
      rw [HR2.out]
      clear HR HR2 HT HT'
      generalize (ks.get 0).tx = tx at *
      generalize (ks.get 1).tx = ty at *
      generalize (ks.get 0).1 = ka at *
      generalize (ks.get 0).2.1 = kb at *
      generalize (ks.get 0).2.2.1 = kc at *
      generalize (ks.get 1).1 = la at *
      generalize (ks.get 1).2.1 = lb at *
      generalize (ks.get 1).2.2.1 = lc at *
      have z1 : ¬ 9223372036854775807 < 1 + tx.length := by omega
      have z2 : ¬ 9223372036854775807 < 1 + tx.length + 7 := by omega
      have z3 : ¬ 9223372036854775807 < 1 + tx.length + 7 + ty.length := by omega
      have z4 : ¬ 9223372036854775807 < 1 + tx.length + 7 + ty.length + 1 := by omega
      go_enter Tryd.func50, Tryd.ntmps50
      go_upto_region 1 with fail
      rw [← hW3]
      clear hW3
      go_upto_region 20 with fail
      clear k0
      refine Lex.wp_region_lex (fun w' => Below W3.heap.size W3 w') (fun _ => true)
        [(0, true), (1, true), (2, true), (3, true), (7, true), (8, true), (9, true), (10, true), (4, false), (5, true), (6, true), (11, false), (12, true), (13, true), (14, false)]
        (by kernel_rfl) (by kernel_rfl) (by kernel_rfl) (by kernel_rfl) ⟨rfl, rfl, rfl, Nat.le_refl _, fun _ _ => rfl⟩ ?_
      have hb0 : Below W3.heap.size W3 W3.drew := ⟨rfl, rfl, rfl, Nat.le_refl _, fun _ _ => rfl⟩
      have hw0 : Below w.heap.size w W3.drew := ⟨HBW.out.os, HBW.out.tape, HBW.out.output, HBW.out.size, HBW.out.block⟩
      generalize hV0 : W3.drew = V0 at *
      clear hV0
      iterate 8 (refine Lex.lex_take (v := ?_) rfl rfl (by rfl) (fun _ hS => ?_) ?_; rotate_left 1; (focus (have g0 := (hS.cell HN3.out.2).trans HN3.out.1; have g1 := (hS.cell HC0.out.2).trans HC0.out.1; have g2 := (hS.cell HC1.out.2).trans HC1.out.1; have g3 := (hS.cell HC2.out.2).trans HC2.out.1; have g4 := (hS.cell HC3.out.2).trans HC3.out.1; have g5 := (hS.cell HD0.out.2).trans HD0.out.1; have g6 := (hS.cell HD1.out.2).trans HD1.out.1; have g7 := (hS.cell HD2.out.2).trans HD2.out.1; have g8 := (hS.cell HD3.out.2).trans HD3.out.1; clear hS; go_simp; with_reducible rfl)); simp only [List.setIfInBounds_toArray, List.set_cons_zero, List.set_cons_succ])
      refine Lex.lex_do rfl ?_
      have cc := HCC.out V0 hw0
      go_wp2_with fail
      refine cc.mono ?_
      rintro e V1 ⟨rfl, hn1⟩
      have hb1 := hb0.trans (hn1.mono hb0.size)
      have hw1 := hw0.trans (hn1.mono hw0.size)
      clear cc hb0 hw0
      clear hn1
      go_wp2_with fail
      refine Lex.lexQ_normal (fun _ => hb1) ?_
      iterate 2 (refine Lex.lex_take (v := ?_) rfl rfl (by rfl) (fun _ hS => ?_) ?_; rotate_left 1; (focus (have g0 := (hS.cell HN3.out.2).trans HN3.out.1; have g1 := (hS.cell HC0.out.2).trans HC0.out.1; have g2 := (hS.cell HC1.out.2).trans HC1.out.1; have g3 := (hS.cell HC2.out.2).trans HC2.out.1; have g4 := (hS.cell HC3.out.2).trans HC3.out.1; have g5 := (hS.cell HD0.out.2).trans HD0.out.1; have g6 := (hS.cell HD1.out.2).trans HD1.out.1; have g7 := (hS.cell HD2.out.2).trans HD2.out.1; have g8 := (hS.cell HD3.out.2).trans HD3.out.1; clear hS; go_simp; with_reducible rfl)); simp only [List.setIfInBounds_toArray, List.set_cons_zero, List.set_cons_succ])
      refine Lex.lex_do rfl ?_
      have cc := HCD.out V1 hw1
      go_wp2_with fail
      refine cc.mono ?_
      rintro e V2 ⟨rfl, hn2⟩
      have hb2 := hb1.trans (hn2.mono hb1.size)
      have hw2 := hw1.trans (hn2.mono hw1.size)
      clear cc hb1 hw1
      clear hn2
      go_wp2_with fail
      refine Lex.lexQ_normal (fun _ => hb2) ?_
      iterate 2 (refine Lex.lex_take (v := ?_) rfl rfl (by rfl) (fun _ hS => ?_) ?_; rotate_left 1; (focus (have g0 := (hS.cell HN3.out.2).trans HN3.out.1; have g1 := (hS.cell HC0.out.2).trans HC0.out.1; have g2 := (hS.cell HC1.out.2).trans HC1.out.1; have g3 := (hS.cell HC2.out.2).trans HC2.out.1; have g4 := (hS.cell HC3.out.2).trans HC3.out.1; have g5 := (hS.cell HD0.out.2).trans HD0.out.1; have g6 := (hS.cell HD1.out.2).trans HD1.out.1; have g7 := (hS.cell HD2.out.2).trans HD2.out.1; have g8 := (hS.cell HD3.out.2).trans HD3.out.1; clear hS; go_simp; with_reducible rfl)); simp only [List.setIfInBounds_toArray, List.set_cons_zero, List.set_cons_succ])
      refine Lex.lex_do rfl ?_
      go_wp2_with fail
      refine Lex.lexQ_normal (fun _ => hb2) ?_
      refine Lex.lex_nil ?_
      have HF := Lib.hid hw2
      go_wp2
      go_ret
      refine ⟨?_, HF.out⟩
      simp
      apply ByteArray.ext
      simp
theorem rtext_any : ∀ (N : Nat), RTextOk N
  | 0 => fun _ _ _ _ h => absurd h (Nat.not_lt_zero _)
  | N + 1 => rtext_step N (rtext_any N)
end Go.Proofs.YtobpacebpiabcaaDoor
