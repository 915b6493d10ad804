/- terms.short: its contract (printed by expand.py). -/
import Derived.Test.YtobpacebpiabcaaGreatDoorGa
namespace Go.Proofs.YtobpacebpiabcaaGreatDoor
open Go.RowKit Go.Lib

def ShortOk (N : Nat) : Prop := ∀ (t : Tm) (S : Nat → Prop) (v : Value) (w : World) (B0 : Nat), t.2.2.2.cnt < N → TmV S w v t → t.fo.shp = true → t.fo.cnt ≤ 64 → LibOk B0 w → Calls Tryz.prog 51 #[v] w (RetTm (fun u => u = t.short) w)
set_option maxRecDepth 100000 in
set_option maxHeartbeats 12800000 in
theorem short_step (N : Nat) (IH : ShortOk N) : ShortOk (N + 1) := by
  intro t S v w B0 hcnt hv hsh hct hL
  obtain ⟨u, rfl, hu⟩ := hv
  obtain ⟨k, nm, n, ks⟩ := t
  obtain ⟨A, m, c, rfl, hm, hmc, hcm, hks⟩ := hu.open'
  dsimp only at *
  have hsh2 := hsh
  rw [fo_shp, Bool.and_eq_true] at hsh
  have hcn : ks.cnt + 1 ≤ 64 := by have := fo_cnt (k, nm, n, ks); dsimp only at this; omega
  have hkd := kids_is hsh.1
  rw [hm] at hkd
  have hm2 : m ≤ 2 := by omega
  have HIH := Lib.hid (show ∀ W j (_ : j < m) (_ : Below w.heap.size w W) u (_ : KidsV S w u (ks.get j).2.2.2), Calls Tryz.prog 51 #[.agg #[.int .i64 (ks.get j).1, .string ⟨(ks.get j).2.1.toArray⟩, .int .i64 (ks.get j).2.2.1, u]] W (RetTm (fun x => x = (ks.get j).short) W) from
    fun W j hj hb u hu => IH (ks.get j) S _ W B0 (by have := Fo.get_cnt ks j (by omega); omega) ⟨u, rfl, hu.below hb⟩ (Fo.shp_get ks j hsh.2 (by omega)) (by rw [fo_cnt]; have := Fo.get_cnt ks j (by omega); omega) (hL.below hb))
  have HG := Lib.hid (fun b off (e : A = some ⟨b, off, none⟩) j (hj : j < ks.len) => KidsAt.get (b := b) (off := off) (i := j) (show KidsAt S w (some ⟨b, off, none⟩) ks by rw [← e]; exact hks) hj)
  have HAT := Lib.hid (fun (h : 0 < ks.len) => hks.at h)
  have HM := Lib.hid hm
  have HKD := Lib.hid hkd
  have HTX := Lib.hid (show ∀ (t : Tm) (S : Nat → Prop) (v : Value) (W : World), Below w.heap.size w W → TmV S W v t → t.fo.shp = true → t.fo.cnt ≤ 64 → Calls Tryz.prog 50 #[v] W (RetW (.string ⟨t.tx.toArray⟩) W) from
    fun t S v W hb h h1 h2 => text_any _ t S v W B0 (Nat.lt_succ_self _) h h1 (by omega) (hL.below hb))
  obtain ⟨so1, so2, so3, -, -⟩ := shorts_ok ks hsh.2
  have HSG := Lib.hid (shorts_get ks)
  have HRES := Lib.hid (show Tm.short (k, nm, n, ks) = shN k nm n ks.shorts from rfl)
  generalize ks.shorts = sf at *
  rw [hm] at so2
  have HSH := Lib.hid so1
  have HSL := Lib.hid so2
  have HSC := Lib.hid (show sf.cnt ≤ 63 by omega)
  have HTL := Lib.hid (show ∀ j, j ≤ m → (sf.upto j).len = j from fun j hj => Fo.upto_len sf j (by omega))
  have HTS := Lib.hid (show ∀ j, j < m → sf.upto (j + 1) = (sf.upto j).app (ks.get j).short.fo from fun j hj => by rw [Fo.upto_succ sf j (by omega), HSG.out j (by omega)])
  have HT0 := Lib.hid (Fo.upto_zero sf)
  have HTA := Lib.hid (show sf.upto m = sf by rw [← so2]; exact Fo.upto_all sf)
  unfold maxLen at hcm
  obtain ⟨R, hR⟩ : ∃ R, w.heap.size + 1 = R := ⟨_, rfl⟩
  obtain ⟨O, hO⟩ : ∃ O, w.heap.size + 2 = O := ⟨_, rfl⟩
  have HRE := Lib.hid hR
  have HRO := Lib.hid (show w.heap.size < R ∧ R < O by omega)
  obtain ⟨W3, hW3⟩ : ∃ W3, W3 = w.alloc (.cells #[.int .i64 k, .string ⟨nm.toArray⟩, .int .i64 n, .slice A m c] 26) := ⟨_, rfl⟩
  have HS3 := Lib.hid (show W3.heap.size = R by rw [← hR, hW3]; simp)
  obtain ⟨W4, hW4⟩ : ∃ W4, W4 = W3.alloc (.cells #[.int .i64 0, .string ⟨#[]⟩, .int .i64 0, .slice none 0 0] 26) := ⟨_, rfl⟩
  have HS4 := Lib.hid (show W4.heap.size = O by rw [← hO, hW4, hW3]; simp)
  have hB4 : Below w.heap.size w W4 := by rw [hW4, hW3]; exact ((Below.refl _ _).alloc (Nat.le_refl _) _).alloc (by simp) _
  have hx4 : Blk W4 w.heap.size #[.int .i64 k, .string ⟨nm.toArray⟩, .int .i64 n, .slice A m c] 26 := by
    rw [hW4]
    exact Blk.below (w := W3) (by rw [hW3]; exact Blk.new _ _ _) ((Below.refl _ _).alloc (Nat.le_refl _) _)
  have hz4 : Blk W4 R #[.int .i64 0, .string ⟨#[]⟩, .int .i64 0, .slice none 0 0] 26 := by
    rw [hW4, ← HS3.out]; exact Blk.new _ _ _
  have HB4 := Lib.hid hB4
  have HX4 := Lib.hid hx4
  have HZ4 := Lib.hid hz4
  obtain ⟨W5, hW5⟩ : ∃ W5, W5 = W4.alloc (.cells #[.int .i64 k, .string ⟨nm.toArray⟩, .int .i64 n, .slice none 0 0] 26) := ⟨_, rfl⟩
  have HR5 := Lib.hid (show Below W4.heap.size W4 W5 by rw [hW5]; exact (Below.refl _ _).alloc (Nat.le_refl _) _)
  have HB5 := Lib.hid (HB4.out.trans (HR5.out.mono HB4.out.size))
  have HX5 := Lib.hid (HX4.out.below HR5.out)
  have HZ5 := Lib.hid (HZ4.out.below HR5.out)
  have HY5 := Lib.hid (show Blk W5 O #[.int .i64 k, .string ⟨nm.toArray⟩, .int .i64 n, .slice none 0 0] 26 by rw [hW5, ← HS4.out]; exact Blk.new _ _ _)
  clear IH hks hu hm hcnt hsh hsh2 hkd hL hct so1 so2 so3 hcn hR hO hx4 hz4 hB4
  have x0 := HX4.out.cell 0
  have x1 := HX4.out.cell 1
  have x2 := HX4.out.cell 2
  go_enter Tryz.func51, Tryz.ntmps51
  go_upto_region 1 with fail
  rw [← hW3, ← hW4, HRE.out]
  clear hW3 hW4
  go_upto_region 2 with fail
  rw [← hW5, HS4.out]
  clear hW5 x0 x1 x2 HX4 HZ4 HB4
  have k3 := HX5.out.cell 3
  go_wp2
  clear k3
  go_loopw [17] (fun i wr => ∃ (j : Nat) (v : Value), j ≤ m ∧ i = .int .i64 j ∧ Blk wr O #[.int .i64 k, .string ⟨nm.toArray⟩, .int .i64 n, v] 26 ∧ OwnF (fun b => O + 1 ≤ b) wr (O + 1) v (sf.upto j) ∧ Blk wr R #[.int .i64 0, .string ⟨#[]⟩, .int .i64 0, .slice none 0 0] 26 ∧ Blk wr w.heap.size #[.int .i64 k, .string ⟨nm.toArray⟩, .int .i64 n, .slice A m c] 26 ∧ Below w.heap.size w wr) (fun i _ => m - (intOf i).toNat)
  case atStart => exact ⟨0, _, Nat.zero_le _, rfl, HY5.out, by rw [HT0.out]; exact OwnF.nil _ _ _, HZ5.out, HX5.out, HB5.out⟩
  case round =>
    clear HX5 HY5 HZ5 HB5 HR5 HS3 HS4
    obtain ⟨j, v, hj, rfl, hy, ho, hz, hx, hbw⟩ := hrel
    obtain ⟨A4, c4, hv4⟩ := ho.form
    rw [HTL.out j hj] at hv4
    subst hv4
    have HY := Lib.hid hy
    have HO := Lib.hid ho
    have HZ := Lib.hid hz
    have HX := Lib.hid hx
    have HB := Lib.hid hbw
    clear hy ho hz hx hbw
    by_cases hlt : j < m
    · have hlt2 : j < ks.len := by rw [HM.out]; exact hlt
      obtain ⟨b, off, rfl, _, hb⟩ := HAT.out (by omega)
      obtain ⟨u, hu, hc0, hc1, hc2, hc3⟩ := HG.out b off rfl j hlt2
      replace hc0 := (HB.out.cell (p := ⟨b, off + j * 4, none⟩) hb).trans hc0
      replace hc1 := (HB.out.cell (p := ⟨b, off + j * 4 + 1, none⟩) hb).trans hc1
      replace hc2 := (HB.out.cell (p := ⟨b, off + j * 4 + 2, none⟩) hb).trans hc2
      replace hc3 := (HB.out.cell (p := ⟨b, off + j * 4 + 3, none⟩) hb).trans hc3
      obtain ⟨A2, m2, c2, rfl, -⟩ := hu.open'
      have cr := fun W hb => HIH.out W j hlt hb _ hu
      obtain ⟨tj, htj⟩ : ∃ tj, ks.get j = tj := ⟨_, rfl⟩
      have HTJ := Lib.hid (show sf.upto (j + 1) = (sf.upto j).app tj.short.fo by rw [← htj]; exact HTS.out j hlt)
      rw [htj] at hc0 hc1 hc2 cr
      clear htj hu HG HAT HIH
      generalize h1 : tj.1 = kk at *
      generalize h2 : tj.2.1 = knm at *
      generalize h3 : tj.2.2.1 = kn' at *
      clear h1 h2 h3
      obtain ⟨W5, hW5⟩ : ∃ W5, W5 = wr.alloc (.cells #[.int .i64 kk, .string ⟨knm.toArray⟩, .int .i64 kn', .slice A2 m2 c2] 26) := ⟨_, rfl⟩
      have HR5 := Lib.hid (show Below wr.heap.size wr W5 by rw [hW5]; exact (Below.refl _ _).alloc (Nat.le_refl _) _)
      have HW5 := Lib.hid (HB.out.trans (HR5.out.mono HB.out.size))
      have HY5 := Lib.hid (HY.out.below HR5.out)
      have HC5 := Lib.hid (show Blk W5 wr.heap.size #[.int .i64 kk, .string ⟨knm.toArray⟩, .int .i64 kn', .slice A2 m2 c2] 26 by rw [hW5]; exact Blk.new _ _ _)
      have HF0 := Lib.hid (And.intro (HC5.out.cell 0) HC5.out.lt)
      have HF1 := Lib.hid (And.intro (HC5.out.cell 1) HC5.out.lt)
      have HF2 := Lib.hid (And.intro (HC5.out.cell 2) HC5.out.lt)
      have HF3 := Lib.hid (And.intro (HC5.out.cell 3) HC5.out.lt)
      have hjm : (j : Int) < (m : Int) := by omega
      have hj0 : (0 : Int) ≤ (j : Int) := by omega
      go_upto_region 5 with fail
      rw [← hW5]
      clear hW5 hc0 hc1 hc2 hc3
      have HYL := Lib.hid HY5.out.lt
      have HYC := Lib.hid (HY5.out.cell 3)
      have HOL := Lib.hid HY.out.lt
      refine Lex.wp_region_lex (fun w' => w'.cell? ⟨O, 3, none⟩ = some (.slice A4 j c4)) (fun j => j != 7)
        [(0, true), (1, true), (2, false), (3, false), (4, false), (5, false), (6, false), (7, false)]
        (by kernel_rfl) (by kernel_rfl) (by kernel_rfl) (by kernel_rfl) HYC.out ?_
      have hb0 : Below W5.heap.size W5 W5.drew := ⟨rfl, rfl, rfl, Nat.le_refl _, fun _ _ => rfl⟩
      have hw0 : Below w.heap.size w W5.drew := ⟨HW5.out.os, HW5.out.tape, HW5.out.output, HW5.out.size, HW5.out.block⟩
      generalize hV0 : W5.drew = V0 at *
      clear hV0
      iterate 2 (refine Lex.lex_take (v := ?_) rfl rfl (by rfl) (fun _ hS => ?_) ?_; rotate_left 1; (focus (have g0 := hS; clear hS; go_simp; with_reducible rfl)); simp only [List.setIfInBounds_toArray, List.set_cons_zero, List.set_cons_succ])
      refine Lex.lex_do rfl ?_
      have g0 := (hb0.cell HF0.out.2).trans HF0.out.1
      have g1 := (hb0.cell HF1.out.2).trans HF1.out.1
      have g2 := (hb0.cell HF2.out.2).trans HF2.out.1
      have g3 := (hb0.cell HF3.out.2).trans HF3.out.1
      go_wp2_with fail
      refine Lex.lexQ_normal (fun _ => (hb0.cell (p := ⟨O, 3, none⟩) HYL.out).trans HYC.out) ?_
      refine Lex.lex_do rfl ?_
      clear g0 g1 g2 g3
      have HS0 := Lib.hid (hb0.size)
      have cc := cr V0 hw0
      go_wp2_with fail
      refine cc.mono ?_
      rintro e V1 ⟨tq, vq, rfl, ⟨uq, rfl, hku⟩, htq, hn1⟩
      have hb1 := hb0.trans (hn1.mono hb0.size)
      have hw1 := hw0.trans (hn1.mono hw0.size)
      clear cc hb0 hw0
      obtain ⟨A3, n3, c3, rfl, -⟩ := hku.open'
      have HKU := Lib.hid hku
      have HTQ := Lib.hid htq
      generalize hk' : tq.1 = k' at *
      generalize hnm' : tq.2.1 = nm' at *
      generalize hn' : tq.2.2.1 = n' at *
      have HT := Lib.hid (And.intro hk' (And.intro hnm' hn'))
      have HV1 := Lib.hid hb1
      have HVW := Lib.hid hw1
      clear hku htq hk' hnm' hn'
      clear hn1
      go_wp2_with fail
      refine Lex.lexQ_normal (fun _ => (HV1.out.cell (p := ⟨O, 3, none⟩) HYL.out).trans HYC.out) ?_
      refine Lex.lex_do rfl ?_
      go_wp2_with fail
      refine Lex.lexQ_normal (fun _ => ((HV1.out.alloc HV1.out.size _).cell (p := ⟨O, 3, none⟩) HYL.out).trans HYC.out) ?_
      refine Lex.lex_do rfl ?_
      obtain ⟨W6, hW6⟩ : ∃ W6, W6 = V1.alloc (.cells #[.int .i64 k', .string ⟨nm'.toArray⟩, .int .i64 n', .slice A3 n3 c3] 26) := ⟨_, rfl⟩
      have HB6 := Lib.hid (show Below W5.heap.size W5 W6 by rw [hW6]; exact HV1.out.alloc HV1.out.size _)
      have HO6 := Lib.hid (HO.out.below (HR5.out.trans (HB6.out.mono HR5.out.size)))
      obtain ⟨us, hu1, hu2, hu3⟩ := HO6.out
      rw [HTL.out j hj] at hu2
      have HU1 := Lib.hid hu1
      have HU2 := Lib.hid hu2
      have HU3 := Lib.hid hu3
      have HN6 := Lib.hid (show W6.heap[V1.heap.size]? = some (.cells #[.int .i64 k', .string ⟨nm'.toArray⟩, .int .i64 n', .slice A3 n3 c3] 26 (0, 0)) by rw [hW6]; exact heap_alloc_new V1 _)
      have HK6 := Lib.hid (show KidsV _ W6 (.slice A3 n3 c3) tq.2.2.2 by rw [hW6]; exact HKU.out.below ((Below.refl _ _).alloc (Nat.le_refl _) _))
      have HL6 := Lib.hid (show O + 1 ≤ W6.heap.size by have h1 := HB6.out.size; have h2 := HYL.out; omega)
      have HW6 := Lib.hid (show Below w.heap.size w W6 by rw [hW6]; exact HVW.out.alloc HVW.out.size _)
      have HL0 := Lib.hid (show ∀ b, (Value.slice A4 j c4).ownBlock = some b → O + 1 ≤ b ∧ b < wr.heap.size from HO.out.ownLt)
      rw [← hW6]
      clear hW6 hu1 hu2 hu3
      refine wpList_app Tryz.underlying24 info_tm rfl (by omega) (by omega) _ rfl _ _ rfl (O + 1) _ j (flatF (sf.upto j) us) rfl HU2.out V1.heap.size #[.int .i64 k', .string ⟨nm'.toArray⟩, .int .i64 n', .slice A3 n3 c3] rfl HN6.out rfl (by simp [Value.oneCell']) (by omega) HL6.out _ rfl ?_
      intro g cap w1 hown hg hgb hgl
      have hmore := OwnF.more (T := fun b => O + 1 ≤ b) (w := W6) (w' := w1) (base := O + 1) (v := .slice A4 j c4) (f := sf.upto j) (g := g) (cap := cap) (t := tq) (u := .slice A3 n3 c3) us HU1.out HU3.out (HK6.out.mono (fun q hq _ => ⟨by have h1 := HOL.out; have h2 := HR5.out.size; have h3 := HS0.out; omega, fun e => by have h1 := (HL0.out q e).2; have h2 := HR5.out.size; have h3 := HS0.out; omega⟩)) (by rw [HTL.out j hj, HT.out.1, HT.out.2.1, HT.out.2.2]; exact hown) hg hgb
      rw [HTL.out j hj, HTQ.out, ← HTJ.out] at hmore
      have HNO := Lib.hid (show (Value.slice A4 j c4).ownBlock ≠ some O from fun e => by have := (HL0.out O e).1; omega)
      have HY1 := Lib.hid ((HY5.out.below HB6.out).grown hg HNO.out)
      have HW1 := Lib.hid (show Below w.heap.size w w1 from HW6.out.trans ⟨hg.os, hg.tape, hg.output, hg.size, fun q hq => hg.block q (Nat.lt_of_lt_of_le hq HW6.out.size) (fun e => by have := (HL0.out q e.symm).1; have := HRO.out; omega)⟩)
      have HX1 := Lib.hid (((HX.out.below HR5.out).below HB6.out).grown hg (fun e => by have := (HL0.out _ e).1; have := HRO.out; omega))
      have HZ1 := Lib.hid (((HZ.out.below HR5.out).below HB6.out).grown hg (fun e => by have := (HL0.out _ e).1; have := HRO.out; omega))
      have HMO := Lib.hid hmore
      clear hown hg hgb hmore
      go_wp2_with fail
      refine Lex.lexQ_normal (fun _ => HY1.out.cell 3) ?_
      refine Lex.lex_do rfl ?_
      go_wp2_with fail
      refine Lex.lexQ_normal (fun _ => HY1.out.cell 3) ?_
      refine Lex.lex_do rfl ?_
      have q0 := HY1.out.cell 3
      have q1 := HY1.out.free 3
      go_wp2_with fail
      refine Lex.lexQ_normal (fun h => absurd h (by decide)) ?_
      refine Lex.lex_nil ?_
      go_wp2
      go_roundw
      case rel => exact ⟨j + 1, _, by omega, by go_num, HY1.out.set 3 _, HMO.out.set ⟨O, 3, none⟩ (Nat.lt_succ_self _) (fun b hb => hb) _, HZ1.out.setOther _ _ (by show R ≠ O; have := HRO.out; omega), HX1.out.setOther _ _ (by show w.heap.size ≠ O; have := HRO.out; omega), HW1.out.setCell (p := ⟨O, 3, none⟩) (by show w.heap.size ≤ O; have := HRO.out; omega) _⟩
      case measure => simp [intOf]; omega
    · obtain rfl : m = j := by omega
      clear HIH HG HAT HTS
      have hkv := HO.out.kidsV (fun b hb => hb)
      rw [HTA.out] at hkv
      have HKV := Lib.hid hkv
      have hka : KidsAt (fun b => O + 1 ≤ b) wr A4 sf := by
        obtain ⟨A', c', he, _, _, _, h⟩ := hkv
        injection he with e1 e2 e3
        subst e1
        exact h
      have HKA := Lib.hid hka
      have HRL := Lib.hid (show w.heap.size ≤ R by have := HRO.out; omega)
      have HRN := Lib.hid (show ∀ b, O + 1 ≤ b → b ≠ R from fun b hb e => by have := HRO.out; omega)
      have HW0 := Lib.hid (Below.refl wr.heap.size wr)
      have x0 := HX.out.cell 0
      have yy := HY.out.cell 3
      clear hkv hka HO HTA HTL HT0 HSG
      rcases HKD.out with ⟨rfl, rfl, rfl, rfl⟩ | ⟨rfl, rfl, -, rfl⟩ | ⟨hk, rfl, rfl, rfl⟩ | ⟨rfl, rfl, rfl, -, -⟩ | ⟨hk, rfl, rfl, rfl⟩
      · have HZn := Lib.hid (HZ.out.below HW0.out)
        have HYn := Lib.hid (HY.out.below HW0.out)
        have y0 := HYn.out.cell 0
        have y1 := HYn.out.cell 1
        have y2 := HYn.out.cell 2
        have y3 := HYn.out.cell 3
        have z0 := HZn.out.cell 0
        have z1 := HZn.out.cell 1
        have z2 := HZn.out.cell 2
        have z3 := HZn.out.cell 3
        have g0 := HZn.out.free 0
        have g1 := HZn.out.free 1
        have g2 := HZn.out.free 2
        have g3 := HZn.out.free 3
        have HE := Lib.hid ((((HZn.out.set 0 (.int .i64 1)).set 1 (.string ⟨([] : List UInt8).toArray⟩)).set 2 (.int .i64 0)).set 3 (.slice A4 0 c4))
        have HEB := Lib.hid (((((HB.out.trans (HW0.out.mono HB.out.size)).setCell (p := ⟨R, 0, none⟩) HRL.out (.int .i64 1)).setCell (p := ⟨R, 1, none⟩) HRL.out (.string ⟨([] : List UInt8).toArray⟩)).setCell (p := ⟨R, 2, none⟩) HRL.out (.int .i64 0)).setCell (p := ⟨R, 3, none⟩) HRL.out (.slice A4 0 c4))
        have HEK := Lib.hid ((((((HKV.out).set ⟨R, 0, none⟩ HRN.out (.int .i64 1)).set ⟨R, 1, none⟩ HRN.out (.string ⟨([] : List UInt8).toArray⟩)).set ⟨R, 2, none⟩ HRN.out (.int .i64 0)).set ⟨R, 3, none⟩ HRN.out (.slice A4 0 c4)).mono (T := fun b => w.heap.size ≤ b) (fun b hb _ => by have := HRO.out; omega))
        have HPR := Lib.hid (show ((1, [], 0, sf) : Tm) = _ from ((HRES.out.trans (show _ = ((1, [], 0, sf) : Tm) by rfl)).symm))
        clear HRES
        go_wp2
        have r0 := HE.out.cell 0
        have r1 := HE.out.cell 1
        have r2 := HE.out.cell 2
        have r3 := HE.out.cell 3
        refine bodyPost_ret (v := .agg #[.int .i64 1, .string ⟨([] : List UInt8).toArray⟩, .int .i64 0, .slice A4 0 c4]) ?_ rfl ⟨(1, [], 0, sf), _, rfl, ⟨.slice A4 0 c4, rfl, HEK.out⟩, HPR.out, HEB.out⟩
        simp at r0 r1 r2 r3
        simp [results, Tryz.results51, go_sem, r0, r1, r2, r3]
      · have HZn := Lib.hid (HZ.out.below HW0.out)
        have HYn := Lib.hid (HY.out.below HW0.out)
        have y0 := HYn.out.cell 0
        have y1 := HYn.out.cell 1
        have y2 := HYn.out.cell 2
        have y3 := HYn.out.cell 3
        have z0 := HZn.out.cell 0
        have z1 := HZn.out.cell 1
        have z2 := HZn.out.cell 2
        have z3 := HZn.out.cell 3
        have g0 := HZn.out.free 0
        have g1 := HZn.out.free 1
        have g2 := HZn.out.free 2
        have g3 := HZn.out.free 3
        have HE := Lib.hid ((((HZn.out.set 0 (.int .i64 2)).set 1 (.string ⟨(nm : List UInt8).toArray⟩)).set 2 (.int .i64 0)).set 3 (.slice A4 0 c4))
        have HEB := Lib.hid (((((HB.out.trans (HW0.out.mono HB.out.size)).setCell (p := ⟨R, 0, none⟩) HRL.out (.int .i64 2)).setCell (p := ⟨R, 1, none⟩) HRL.out (.string ⟨(nm : List UInt8).toArray⟩)).setCell (p := ⟨R, 2, none⟩) HRL.out (.int .i64 0)).setCell (p := ⟨R, 3, none⟩) HRL.out (.slice A4 0 c4))
        have HEK := Lib.hid ((((((HKV.out).set ⟨R, 0, none⟩ HRN.out (.int .i64 2)).set ⟨R, 1, none⟩ HRN.out (.string ⟨(nm : List UInt8).toArray⟩)).set ⟨R, 2, none⟩ HRN.out (.int .i64 0)).set ⟨R, 3, none⟩ HRN.out (.slice A4 0 c4)).mono (T := fun b => w.heap.size ≤ b) (fun b hb _ => by have := HRO.out; omega))
        have HPR := Lib.hid (show ((2, nm, 0, sf) : Tm) = _ from ((HRES.out.trans (show _ = ((2, nm, 0, sf) : Tm) by rfl)).symm))
        clear HRES
        go_wp2
        have r0 := HE.out.cell 0
        have r1 := HE.out.cell 1
        have r2 := HE.out.cell 2
        have r3 := HE.out.cell 3
        refine bodyPost_ret (v := .agg #[.int .i64 2, .string ⟨(nm : List UInt8).toArray⟩, .int .i64 0, .slice A4 0 c4]) ?_ rfl ⟨(2, nm, 0, sf), _, rfl, ⟨.slice A4 0 c4, rfl, HEK.out⟩, HPR.out, HEB.out⟩
        simp at r0 r1 r2 r3
        simp [results, Tryz.results51, go_sem, r0, r1, r2, r3]
      · rcases hk with rfl | rfl | rfl | rfl
        · skip
          obtain ⟨k1, nm1, n1, ks1, rfl⟩ := Fo.len_one HSL.out
          obtain ⟨b, off, u1, rfl, hk1, c0, c1, c2, c3⟩ := HKA.out.cells0 (by rw [HSL.out]; omega)
          obtain ⟨A5, m5, c5, rfl, hm5, -, -, hka5⟩ := hk1.open'
          have HK1 := Lib.hid hk1
          have HA5 := Lib.hid hka5
          have HM5 := Lib.hid hm5
          have HBL := Lib.hid (show b < wr.heap.size from World.block_lt_of_cell? wr ⟨b, off, none⟩ c0)
          have HC0 := Lib.hid c0
          have HC1 := Lib.hid c1
          have HC2 := Lib.hid c2
          have HC3 := Lib.hid c3
          clear c0 c1 c2 c3 hk1 hka5 hm5
          dsimp only [Fo.get] at HK1 HC0 HC1 HC2 HC3 HA5 HM5
          have p0 := (HW0.out.cell (p := ⟨b, off, none⟩) HBL.out).trans HC0.out
          have p1 := (HW0.out.cell (p := ⟨b, off + 1, none⟩) HBL.out).trans HC1.out
          have p2 := (HW0.out.cell (p := ⟨b, off + 2, none⟩) HBL.out).trans HC2.out
          have p3 := (HW0.out.cell (p := ⟨b, off + 3, none⟩) HBL.out).trans HC3.out
          by_cases h3 : k1 = 3
          · subst h3
            have hlen : ks1.len = 1 := by
              have h := HSH.out
              simp only [Fo.shp, Bool.and_eq_true] at h
              rcases kids_is h.1.1 with ⟨e, _⟩ | ⟨e, _⟩ | ⟨_, h, _⟩ | ⟨e, _⟩ | ⟨e, _⟩
              · omega
              · omega
              · exact h
              · omega
              · omega
            obtain ⟨k0, nm0, n0, ks0, rfl⟩ := Fo.len_one hlen
            obtain ⟨b2, off2, u3, rfl, hk0, d0, d1, d2, d3⟩ := HA5.out.cells0 (by rw [hlen]; omega)
            obtain ⟨A7, m7, c7, rfl, -⟩ := hk0.open'
            dsimp only [Fo.get] at hk0 d0 d1 d2 d3
            have HK0 := Lib.hid hk0
            obtain rfl : 1 = m5 := by rw [← HM5.out]; rfl
            clear hk0 hlen
            have HZn := Lib.hid (HZ.out.below HW0.out)
            have HYn := Lib.hid (HY.out.below HW0.out)
            have y0 := HYn.out.cell 0
            have y1 := HYn.out.cell 1
            have y2 := HYn.out.cell 2
            have y3 := HYn.out.cell 3
            have z0 := HZn.out.cell 0
            have z1 := HZn.out.cell 1
            have z2 := HZn.out.cell 2
            have z3 := HZn.out.cell 3
            have g0 := HZn.out.free 0
            have g1 := HZn.out.free 1
            have g2 := HZn.out.free 2
            have g3 := HZn.out.free 3
            have HE := Lib.hid ((((HZn.out.set 0 (.int .i64 k0)).set 1 (.string ⟨(nm0 : List UInt8).toArray⟩)).set 2 (.int .i64 n0)).set 3 (.slice A7 m7 c7))
            have HEB := Lib.hid (((((HB.out.trans (HW0.out.mono HB.out.size)).setCell (p := ⟨R, 0, none⟩) HRL.out (.int .i64 k0)).setCell (p := ⟨R, 1, none⟩) HRL.out (.string ⟨(nm0 : List UInt8).toArray⟩)).setCell (p := ⟨R, 2, none⟩) HRL.out (.int .i64 n0)).setCell (p := ⟨R, 3, none⟩) HRL.out (.slice A7 m7 c7))
            have HEK := Lib.hid ((((((HK0.out).set ⟨R, 0, none⟩ HRN.out (.int .i64 k0)).set ⟨R, 1, none⟩ HRN.out (.string ⟨(nm0 : List UInt8).toArray⟩)).set ⟨R, 2, none⟩ HRN.out (.int .i64 n0)).set ⟨R, 3, none⟩ HRN.out (.slice A7 m7 c7)).mono (T := fun b => w.heap.size ≤ b) (fun b hb _ => by have := HRO.out; omega))
            have HPR := Lib.hid (show ((k0, nm0, n0, ks0) : Tm) = _ from ((HRES.out.trans (show _ = ((k0, nm0, n0, ks0) : Tm) by exact if_pos ⟨rfl, rfl⟩)).symm))
            clear HRES
            go_wp2
            have r0 := HE.out.cell 0
            have r1 := HE.out.cell 1
            have r2 := HE.out.cell 2
            have r3 := HE.out.cell 3
            refine bodyPost_ret (v := .agg #[.int .i64 k0, .string ⟨(nm0 : List UInt8).toArray⟩, .int .i64 n0, .slice A7 m7 c7]) ?_ rfl ⟨(k0, nm0, n0, ks0), _, rfl, ⟨.slice A7 m7 c7, rfl, HEK.out⟩, HPR.out, HEB.out⟩
            simp at r0 r1 r2 r3
            simp [results, Tryz.results51, go_sem, r0, r1, r2, r3]
          · skip
            have HZn := Lib.hid (HZ.out.below HW0.out)
            have HYn := Lib.hid (HY.out.below HW0.out)
            have y0 := HYn.out.cell 0
            have y1 := HYn.out.cell 1
            have y2 := HYn.out.cell 2
            have y3 := HYn.out.cell 3
            have z0 := HZn.out.cell 0
            have z1 := HZn.out.cell 1
            have z2 := HZn.out.cell 2
            have z3 := HZn.out.cell 3
            have g0 := HZn.out.free 0
            have g1 := HZn.out.free 1
            have g2 := HZn.out.free 2
            have g3 := HZn.out.free 3
            have HE := Lib.hid ((((HZn.out.set 0 (.int .i64 3)).set 1 (.string ⟨([] : List UInt8).toArray⟩)).set 2 (.int .i64 0)).set 3 (.slice (some ⟨b, off, none⟩) 1 c4))
            have HEB := Lib.hid (((((HB.out.trans (HW0.out.mono HB.out.size)).setCell (p := ⟨R, 0, none⟩) HRL.out (.int .i64 3)).setCell (p := ⟨R, 1, none⟩) HRL.out (.string ⟨([] : List UInt8).toArray⟩)).setCell (p := ⟨R, 2, none⟩) HRL.out (.int .i64 0)).setCell (p := ⟨R, 3, none⟩) HRL.out (.slice (some ⟨b, off, none⟩) 1 c4))
            have HEK := Lib.hid ((((((HKV.out).set ⟨R, 0, none⟩ HRN.out (.int .i64 3)).set ⟨R, 1, none⟩ HRN.out (.string ⟨([] : List UInt8).toArray⟩)).set ⟨R, 2, none⟩ HRN.out (.int .i64 0)).set ⟨R, 3, none⟩ HRN.out (.slice (some ⟨b, off, none⟩) 1 c4)).mono (T := fun b => w.heap.size ≤ b) (fun b hb _ => by have := HRO.out; omega))
            have HPR := Lib.hid (show ((3, [], 0, .cons k1 nm1 n1 ks1 .nil) : Tm) = _ from ((HRES.out.trans (show _ = ((3, [], 0, .cons k1 nm1 n1 ks1 .nil) : Tm) by unfold shN; rw [if_neg (fun q => h3 q.2)]; rfl)).symm))
            clear HRES
            go_wp2
            have r0 := HE.out.cell 0
            have r1 := HE.out.cell 1
            have r2 := HE.out.cell 2
            have r3 := HE.out.cell 3
            refine bodyPost_ret (v := .agg #[.int .i64 3, .string ⟨([] : List UInt8).toArray⟩, .int .i64 0, .slice (some ⟨b, off, none⟩) 1 c4]) ?_ rfl ⟨(3, [], 0, .cons k1 nm1 n1 ks1 .nil), _, rfl, ⟨.slice (some ⟨b, off, none⟩) 1 c4, rfl, HEK.out⟩, HPR.out, HEB.out⟩
            simp at r0 r1 r2 r3
            simp [results, Tryz.results51, go_sem, r0, r1, r2, r3]
        · skip
          obtain ⟨k1, nm1, n1, ks1, rfl⟩ := Fo.len_one HSL.out
          obtain ⟨b, off, u1, rfl, hk1, c0, c1, c2, c3⟩ := HKA.out.cells0 (by rw [HSL.out]; omega)
          obtain ⟨A5, m5, c5, rfl, hm5, -, -, hka5⟩ := hk1.open'
          have HK1 := Lib.hid hk1
          have HA5 := Lib.hid hka5
          have HM5 := Lib.hid hm5
          have HBL := Lib.hid (show b < wr.heap.size from World.block_lt_of_cell? wr ⟨b, off, none⟩ c0)
          have HC0 := Lib.hid c0
          have HC1 := Lib.hid c1
          have HC2 := Lib.hid c2
          have HC3 := Lib.hid c3
          clear c0 c1 c2 c3 hk1 hka5 hm5
          dsimp only [Fo.get] at HK1 HC0 HC1 HC2 HC3 HA5 HM5
          have HZn := Lib.hid (HZ.out.below HW0.out)
          have HYn := Lib.hid (HY.out.below HW0.out)
          have y0 := HYn.out.cell 0
          have y1 := HYn.out.cell 1
          have y2 := HYn.out.cell 2
          have y3 := HYn.out.cell 3
          have z0 := HZn.out.cell 0
          have z1 := HZn.out.cell 1
          have z2 := HZn.out.cell 2
          have z3 := HZn.out.cell 3
          have g0 := HZn.out.free 0
          have g1 := HZn.out.free 1
          have g2 := HZn.out.free 2
          have g3 := HZn.out.free 3
          have HE := Lib.hid ((((HZn.out.set 0 (.int .i64 6)).set 1 (.string ⟨([] : List UInt8).toArray⟩)).set 2 (.int .i64 0)).set 3 (.slice (some ⟨b, off, none⟩) 1 c4))
          have HEB := Lib.hid (((((HB.out.trans (HW0.out.mono HB.out.size)).setCell (p := ⟨R, 0, none⟩) HRL.out (.int .i64 6)).setCell (p := ⟨R, 1, none⟩) HRL.out (.string ⟨([] : List UInt8).toArray⟩)).setCell (p := ⟨R, 2, none⟩) HRL.out (.int .i64 0)).setCell (p := ⟨R, 3, none⟩) HRL.out (.slice (some ⟨b, off, none⟩) 1 c4))
          have HEK := Lib.hid ((((((HKV.out).set ⟨R, 0, none⟩ HRN.out (.int .i64 6)).set ⟨R, 1, none⟩ HRN.out (.string ⟨([] : List UInt8).toArray⟩)).set ⟨R, 2, none⟩ HRN.out (.int .i64 0)).set ⟨R, 3, none⟩ HRN.out (.slice (some ⟨b, off, none⟩) 1 c4)).mono (T := fun b => w.heap.size ≤ b) (fun b hb _ => by have := HRO.out; omega))
          have HPR := Lib.hid (show ((6, [], 0, .cons k1 nm1 n1 ks1 .nil) : Tm) = _ from ((HRES.out.trans (show _ = ((6, [], 0, .cons k1 nm1 n1 ks1 .nil) : Tm) by rfl)).symm))
          clear HRES
          go_wp2
          have r0 := HE.out.cell 0
          have r1 := HE.out.cell 1
          have r2 := HE.out.cell 2
          have r3 := HE.out.cell 3
          refine bodyPost_ret (v := .agg #[.int .i64 6, .string ⟨([] : List UInt8).toArray⟩, .int .i64 0, .slice (some ⟨b, off, none⟩) 1 c4]) ?_ rfl ⟨(6, [], 0, .cons k1 nm1 n1 ks1 .nil), _, rfl, ⟨.slice (some ⟨b, off, none⟩) 1 c4, rfl, HEK.out⟩, HPR.out, HEB.out⟩
          simp at r0 r1 r2 r3
          simp [results, Tryz.results51, go_sem, r0, r1, r2, r3]
        · skip
          obtain ⟨k1, nm1, n1, ks1, rfl⟩ := Fo.len_one HSL.out
          obtain ⟨b, off, u1, rfl, hk1, c0, c1, c2, c3⟩ := HKA.out.cells0 (by rw [HSL.out]; omega)
          obtain ⟨A5, m5, c5, rfl, hm5, -, -, hka5⟩ := hk1.open'
          have HK1 := Lib.hid hk1
          have HA5 := Lib.hid hka5
          have HM5 := Lib.hid hm5
          have HBL := Lib.hid (show b < wr.heap.size from World.block_lt_of_cell? wr ⟨b, off, none⟩ c0)
          have HC0 := Lib.hid c0
          have HC1 := Lib.hid c1
          have HC2 := Lib.hid c2
          have HC3 := Lib.hid c3
          clear c0 c1 c2 c3 hk1 hka5 hm5
          dsimp only [Fo.get] at HK1 HC0 HC1 HC2 HC3 HA5 HM5
          have HF0 := Lib.hid (And.intro HC0.out HBL.out)
          have HF1 := Lib.hid (And.intro HC1.out HBL.out)
          have HF2 := Lib.hid (And.intro HC2.out HBL.out)
          have HF3 := Lib.hid (And.intro HC3.out HBL.out)
          have HFX := Lib.hid (And.intro (HX.out.cell 0) HX.out.lt)
          go_upto_region 26 with fail
          clear x0
          by_cases h3 : k1 = 7
          · subst h3
            refine Lex.wp_region_lex (fun w' => Below wr.heap.size wr w') (fun _ => true)
              [(0, true), (1, true), (2, true), (3, true), (4, true), (5, true), (6, true), (7, true), (8, true), (9, true), (10, true), (11, true), (12, true)]
              (by kernel_rfl) (by kernel_rfl) (by kernel_rfl) (by kernel_rfl) ⟨rfl, rfl, rfl, Nat.le_refl _, fun _ _ => rfl⟩ ?_
            have hb0 : Below wr.heap.size wr wr.drew := ⟨rfl, rfl, rfl, Nat.le_refl _, fun _ _ => rfl⟩
            have hw0 : Below w.heap.size w wr.drew := ⟨HB.out.os, HB.out.tape, HB.out.output, HB.out.size, HB.out.block⟩
            generalize hV0 : wr.drew = V0 at *
            clear hV0
            iterate 8 (refine Lex.lex_take (v := ?_) rfl rfl (by rfl) (fun _ hS => ?_) ?_; rotate_left 1; (focus (have g0 := (hS.cell HF0.out.2).trans HF0.out.1; have g1 := (hS.cell HF1.out.2).trans HF1.out.1; have g2 := (hS.cell HF2.out.2).trans HF2.out.1; have g3 := (hS.cell HF3.out.2).trans HF3.out.1; have g4 := (hS.cell HFX.out.2).trans HFX.out.1; clear hS; go_simp; with_reducible rfl)); simp only [List.setIfInBounds_toArray, List.set_cons_zero, List.set_cons_succ])
            iterate 4 (refine Lex.lex_skip rfl rfl (by rfl) ?_; simp only [List.setIfInBounds_toArray, List.set_cons_zero, List.set_cons_succ])
            refine Lex.lex_take (v := ?_) rfl rfl (by rfl) (fun _ hS => ?_) ?_; rotate_left 1; (focus (have g0 := (hS.cell HF0.out.2).trans HF0.out.1; have g1 := (hS.cell HF1.out.2).trans HF1.out.1; have g2 := (hS.cell HF2.out.2).trans HF2.out.1; have g3 := (hS.cell HF3.out.2).trans HF3.out.1; have g4 := (hS.cell HFX.out.2).trans HFX.out.1; clear hS; go_simp; with_reducible rfl)); simp only [List.setIfInBounds_toArray, List.set_cons_zero, List.set_cons_succ]
            refine Lex.lex_nil ?_
            have HV0 := Lib.hid hb0
            clear hb0 hw0
            have p0 := (HV0.out.cell (p := ⟨b, off, none⟩) HBL.out).trans HC0.out
            have p1 := (HV0.out.cell (p := ⟨b, off + 1, none⟩) HBL.out).trans HC1.out
            have p2 := (HV0.out.cell (p := ⟨b, off + 2, none⟩) HBL.out).trans HC2.out
            have p3 := (HV0.out.cell (p := ⟨b, off + 3, none⟩) HBL.out).trans HC3.out
            have HZn := Lib.hid (HZ.out.below HV0.out)
            have HYn := Lib.hid (HY.out.below HV0.out)
            have y0 := HYn.out.cell 0
            have y1 := HYn.out.cell 1
            have y2 := HYn.out.cell 2
            have y3 := HYn.out.cell 3
            have z0 := HZn.out.cell 0
            have z1 := HZn.out.cell 1
            have z2 := HZn.out.cell 2
            have z3 := HZn.out.cell 3
            have g0 := HZn.out.free 0
            have g1 := HZn.out.free 1
            have g2 := HZn.out.free 2
            have g3 := HZn.out.free 3
            have HE := Lib.hid ((((HZn.out.set 0 (.int .i64 7)).set 1 (.string ⟨(nm1 : List UInt8).toArray⟩)).set 2 (.int .i64 n1)).set 3 (.slice A5 m5 c5))
            have HEB := Lib.hid (((((HB.out.trans (HV0.out.mono HB.out.size)).setCell (p := ⟨R, 0, none⟩) HRL.out (.int .i64 7)).setCell (p := ⟨R, 1, none⟩) HRL.out (.string ⟨(nm1 : List UInt8).toArray⟩)).setCell (p := ⟨R, 2, none⟩) HRL.out (.int .i64 n1)).setCell (p := ⟨R, 3, none⟩) HRL.out (.slice A5 m5 c5))
            have HEK := Lib.hid ((((((HK1.out.below HV0.out).set ⟨R, 0, none⟩ HRN.out (.int .i64 7)).set ⟨R, 1, none⟩ HRN.out (.string ⟨(nm1 : List UInt8).toArray⟩)).set ⟨R, 2, none⟩ HRN.out (.int .i64 n1)).set ⟨R, 3, none⟩ HRN.out (.slice A5 m5 c5)).mono (T := fun b => w.heap.size ≤ b) (fun b hb _ => by have := HRO.out; omega))
            have HPR := Lib.hid (show ((7, nm1, n1, ks1) : Tm) = _ from ((HRES.out.trans (show _ = ((7, nm1, n1, ks1) : Tm) by exact (if_neg (by omega)).trans ((if_neg (by omega)).trans ((if_neg (by omega)).trans ((if_neg (by omega)).trans ((if_neg (by omega)).trans (if_pos ⟨by omega, .inl rfl⟩))))))).symm))
            clear HRES
            go_wp2
            have r0 := HE.out.cell 0
            have r1 := HE.out.cell 1
            have r2 := HE.out.cell 2
            have r3 := HE.out.cell 3
            refine bodyPost_ret (v := .agg #[.int .i64 7, .string ⟨(nm1 : List UInt8).toArray⟩, .int .i64 n1, .slice A5 m5 c5]) ?_ rfl ⟨(7, nm1, n1, ks1), _, rfl, ⟨.slice A5 m5 c5, rfl, HEK.out⟩, HPR.out, HEB.out⟩
            simp at r0 r1 r2 r3
            simp [results, Tryz.results51, go_sem, r0, r1, r2, r3]
          · have d3 : (k1 == 7) = false := by rw [beq_eq_false_iff_ne]; exact h3
            have d4 : decide (k1 = 7) = false := decide_eq_false h3
            by_cases h1 : k1 = 1
            · subst h1
              refine Lex.wp_region_lex (fun w' => Below wr.heap.size wr w') (fun _ => true)
                [(0, true), (1, true), (2, true), (3, true), (4, true), (5, true), (6, true), (7, true), (8, true), (9, true), (10, true), (11, false), (12, true)]
                (by kernel_rfl) (by kernel_rfl) (by kernel_rfl) (by kernel_rfl) ⟨rfl, rfl, rfl, Nat.le_refl _, fun _ _ => rfl⟩ ?_
              have hb0 : Below wr.heap.size wr wr.drew := ⟨rfl, rfl, rfl, Nat.le_refl _, fun _ _ => rfl⟩
              have hw0 : Below w.heap.size w wr.drew := ⟨HB.out.os, HB.out.tape, HB.out.output, HB.out.size, HB.out.block⟩
              generalize hV0 : wr.drew = V0 at *
              clear hV0
              iterate 11 (refine Lex.lex_take (v := ?_) rfl rfl (by rfl) (fun _ hS => ?_) ?_; rotate_left 1; (focus (have g0 := (hS.cell HF0.out.2).trans HF0.out.1; have g1 := (hS.cell HF1.out.2).trans HF1.out.1; have g2 := (hS.cell HF2.out.2).trans HF2.out.1; have g3 := (hS.cell HF3.out.2).trans HF3.out.1; have g4 := (hS.cell HFX.out.2).trans HFX.out.1; clear hS; go_simp; with_reducible rfl)); simp only [List.setIfInBounds_toArray, List.set_cons_zero, List.set_cons_succ])
              refine Lex.lex_do rfl ?_
              have cc := yes_b true (k := 1) rfl ⟨nm1.toArray⟩ n1 A5 m5 c5 V0
              go_wp2_with fail
              refine cc.mono ?_
              rintro e V1 ⟨rfl, hn1⟩
              have hb1 := hb0.trans (hn1.mono hb0.size)
              have hw1 := hw0.trans (hn1.mono hw0.size)
              clear cc hb0 hw0
              clear hn1
              go_wp2_with fail
              refine Lex.lexQ_normal (fun _ => hb1) ?_
              refine Lex.lex_take (v := ?_) rfl rfl (by rfl) (fun _ hS => ?_) ?_; rotate_left 1; (focus (have g0 := (hS.cell HF0.out.2).trans HF0.out.1; have g1 := (hS.cell HF1.out.2).trans HF1.out.1; have g2 := (hS.cell HF2.out.2).trans HF2.out.1; have g3 := (hS.cell HF3.out.2).trans HF3.out.1; have g4 := (hS.cell HFX.out.2).trans HFX.out.1; clear hS; go_simp; with_reducible rfl)); simp only [List.setIfInBounds_toArray, List.set_cons_zero, List.set_cons_succ]
              refine Lex.lex_nil ?_
              have HV1 := Lib.hid hb1
              clear hb1 hw1 d3 d4 h3
              have p0 := (HV1.out.cell (p := ⟨b, off, none⟩) HBL.out).trans HC0.out
              have p1 := (HV1.out.cell (p := ⟨b, off + 1, none⟩) HBL.out).trans HC1.out
              have p2 := (HV1.out.cell (p := ⟨b, off + 2, none⟩) HBL.out).trans HC2.out
              have p3 := (HV1.out.cell (p := ⟨b, off + 3, none⟩) HBL.out).trans HC3.out
              have HZn := Lib.hid (HZ.out.below HV1.out)
              have HYn := Lib.hid (HY.out.below HV1.out)
              have y0 := HYn.out.cell 0
              have y1 := HYn.out.cell 1
              have y2 := HYn.out.cell 2
              have y3 := HYn.out.cell 3
              have z0 := HZn.out.cell 0
              have z1 := HZn.out.cell 1
              have z2 := HZn.out.cell 2
              have z3 := HZn.out.cell 3
              have g0 := HZn.out.free 0
              have g1 := HZn.out.free 1
              have g2 := HZn.out.free 2
              have g3 := HZn.out.free 3
              have HE := Lib.hid ((((HZn.out.set 0 (.int .i64 1)).set 1 (.string ⟨(nm1 : List UInt8).toArray⟩)).set 2 (.int .i64 n1)).set 3 (.slice A5 m5 c5))
              have HEB := Lib.hid (((((HB.out.trans (HV1.out.mono HB.out.size)).setCell (p := ⟨R, 0, none⟩) HRL.out (.int .i64 1)).setCell (p := ⟨R, 1, none⟩) HRL.out (.string ⟨(nm1 : List UInt8).toArray⟩)).setCell (p := ⟨R, 2, none⟩) HRL.out (.int .i64 n1)).setCell (p := ⟨R, 3, none⟩) HRL.out (.slice A5 m5 c5))
              have HEK := Lib.hid ((((((HK1.out.below HV1.out).set ⟨R, 0, none⟩ HRN.out (.int .i64 1)).set ⟨R, 1, none⟩ HRN.out (.string ⟨(nm1 : List UInt8).toArray⟩)).set ⟨R, 2, none⟩ HRN.out (.int .i64 n1)).set ⟨R, 3, none⟩ HRN.out (.slice A5 m5 c5)).mono (T := fun b => w.heap.size ≤ b) (fun b hb _ => by have := HRO.out; omega))
              have HPR := Lib.hid (show ((1, nm1, n1, ks1) : Tm) = _ from ((HRES.out.trans (show _ = ((1, nm1, n1, ks1) : Tm) by exact (if_neg (by omega)).trans ((if_neg (by omega)).trans ((if_neg (by omega)).trans ((if_neg (by omega)).trans ((if_neg (by omega)).trans (if_pos ⟨by omega, .inr rfl⟩))))))).symm))
              clear HRES
              go_wp2
              have r0 := HE.out.cell 0
              have r1 := HE.out.cell 1
              have r2 := HE.out.cell 2
              have r3 := HE.out.cell 3
              refine bodyPost_ret (v := .agg #[.int .i64 1, .string ⟨(nm1 : List UInt8).toArray⟩, .int .i64 n1, .slice A5 m5 c5]) ?_ rfl ⟨(1, nm1, n1, ks1), _, rfl, ⟨.slice A5 m5 c5, rfl, HEK.out⟩, HPR.out, HEB.out⟩
              simp at r0 r1 r2 r3
              simp [results, Tryz.results51, go_sem, r0, r1, r2, r3]
            · skip
              refine Lex.wp_region_lex (fun w' => Below wr.heap.size wr w') (fun _ => true)
                [(0, true), (1, true), (2, true), (3, true), (4, true), (5, true), (6, true), (7, true), (8, true), (9, true), (10, true), (11, false), (12, true)]
                (by kernel_rfl) (by kernel_rfl) (by kernel_rfl) (by kernel_rfl) ⟨rfl, rfl, rfl, Nat.le_refl _, fun _ _ => rfl⟩ ?_
              have hb0 : Below wr.heap.size wr wr.drew := ⟨rfl, rfl, rfl, Nat.le_refl _, fun _ _ => rfl⟩
              have hw0 : Below w.heap.size w wr.drew := ⟨HB.out.os, HB.out.tape, HB.out.output, HB.out.size, HB.out.block⟩
              generalize hV0 : wr.drew = V0 at *
              clear hV0
              iterate 11 (refine Lex.lex_take (v := ?_) rfl rfl (by rfl) (fun _ hS => ?_) ?_; rotate_left 1; (focus (have g0 := (hS.cell HF0.out.2).trans HF0.out.1; have g1 := (hS.cell HF1.out.2).trans HF1.out.1; have g2 := (hS.cell HF2.out.2).trans HF2.out.1; have g3 := (hS.cell HF3.out.2).trans HF3.out.1; have g4 := (hS.cell HFX.out.2).trans HFX.out.1; clear hS; go_simp; with_reducible rfl)); simp only [List.setIfInBounds_toArray, List.set_cons_zero, List.set_cons_succ])
              refine Lex.lex_do rfl ?_
              have cc := yes_b false (k := k1) (decide_eq_false h1) ⟨nm1.toArray⟩ n1 A5 m5 c5 V0
              go_wp2_with fail
              refine cc.mono ?_
              rintro e V1 ⟨rfl, hn1⟩
              have hb1 := hb0.trans (hn1.mono hb0.size)
              have hw1 := hw0.trans (hn1.mono hw0.size)
              clear cc hb0 hw0
              clear hn1
              go_wp2_with fail
              refine Lex.lexQ_normal (fun _ => hb1) ?_
              refine Lex.lex_take (v := ?_) rfl rfl (by rfl) (fun _ hS => ?_) ?_; rotate_left 1; (focus (have g0 := (hS.cell HF0.out.2).trans HF0.out.1; have g1 := (hS.cell HF1.out.2).trans HF1.out.1; have g2 := (hS.cell HF2.out.2).trans HF2.out.1; have g3 := (hS.cell HF3.out.2).trans HF3.out.1; have g4 := (hS.cell HFX.out.2).trans HFX.out.1; clear hS; go_simp; with_reducible rfl)); simp only [List.setIfInBounds_toArray, List.set_cons_zero, List.set_cons_succ]
              refine Lex.lex_nil ?_
              have HV1 := Lib.hid hb1
              have HH1 := Lib.hid h1
              have HH3 := Lib.hid h3
              clear hb1 hw1 d3 d4 h1 h3
              have HZn := Lib.hid (HZ.out.below HV1.out)
              have HYn := Lib.hid (HY.out.below HV1.out)
              have y0 := HYn.out.cell 0
              have y1 := HYn.out.cell 1
              have y2 := HYn.out.cell 2
              have y3 := HYn.out.cell 3
              have z0 := HZn.out.cell 0
              have z1 := HZn.out.cell 1
              have z2 := HZn.out.cell 2
              have z3 := HZn.out.cell 3
              have g0 := HZn.out.free 0
              have g1 := HZn.out.free 1
              have g2 := HZn.out.free 2
              have g3 := HZn.out.free 3
              have HE := Lib.hid ((((HZn.out.set 0 (.int .i64 7)).set 1 (.string ⟨([] : List UInt8).toArray⟩)).set 2 (.int .i64 0)).set 3 (.slice (some ⟨b, off, none⟩) 1 c4))
              have HEB := Lib.hid (((((HB.out.trans (HV1.out.mono HB.out.size)).setCell (p := ⟨R, 0, none⟩) HRL.out (.int .i64 7)).setCell (p := ⟨R, 1, none⟩) HRL.out (.string ⟨([] : List UInt8).toArray⟩)).setCell (p := ⟨R, 2, none⟩) HRL.out (.int .i64 0)).setCell (p := ⟨R, 3, none⟩) HRL.out (.slice (some ⟨b, off, none⟩) 1 c4))
              have HEK := Lib.hid ((((((HKV.out.below HV1.out).set ⟨R, 0, none⟩ HRN.out (.int .i64 7)).set ⟨R, 1, none⟩ HRN.out (.string ⟨([] : List UInt8).toArray⟩)).set ⟨R, 2, none⟩ HRN.out (.int .i64 0)).set ⟨R, 3, none⟩ HRN.out (.slice (some ⟨b, off, none⟩) 1 c4)).mono (T := fun b => w.heap.size ≤ b) (fun b hb _ => by have := HRO.out; omega))
              have HPR := Lib.hid (show ((7, [], 0, .cons k1 nm1 n1 ks1 .nil) : Tm) = _ from ((HRES.out.trans (show _ = ((7, [], 0, .cons k1 nm1 n1 ks1 .nil) : Tm) by have q1 := HH1.out; have q3 := HH3.out; unfold shN; rw [if_neg (by omega), if_neg (by omega), if_neg (by omega), if_neg (by omega), if_neg (by omega), if_neg (fun q => q.2.elim q3 q1)]; rfl)).symm))
              clear HRES
              go_wp2
              have r0 := HE.out.cell 0
              have r1 := HE.out.cell 1
              have r2 := HE.out.cell 2
              have r3 := HE.out.cell 3
              refine bodyPost_ret (v := .agg #[.int .i64 7, .string ⟨([] : List UInt8).toArray⟩, .int .i64 0, .slice (some ⟨b, off, none⟩) 1 c4]) ?_ rfl ⟨(7, [], 0, .cons k1 nm1 n1 ks1 .nil), _, rfl, ⟨.slice (some ⟨b, off, none⟩) 1 c4, rfl, HEK.out⟩, HPR.out, HEB.out⟩
              simp at r0 r1 r2 r3
              simp [results, Tryz.results51, go_sem, r0, r1, r2, r3]
        · skip
          obtain ⟨k1, nm1, n1, ks1, rfl⟩ := Fo.len_one HSL.out
          obtain ⟨b, off, u1, rfl, hk1, c0, c1, c2, c3⟩ := HKA.out.cells0 (by rw [HSL.out]; omega)
          obtain ⟨A5, m5, c5, rfl, hm5, -, -, hka5⟩ := hk1.open'
          have HK1 := Lib.hid hk1
          have HA5 := Lib.hid hka5
          have HM5 := Lib.hid hm5
          have HBL := Lib.hid (show b < wr.heap.size from World.block_lt_of_cell? wr ⟨b, off, none⟩ c0)
          have HC0 := Lib.hid c0
          have HC1 := Lib.hid c1
          have HC2 := Lib.hid c2
          have HC3 := Lib.hid c3
          clear c0 c1 c2 c3 hk1 hka5 hm5
          dsimp only [Fo.get] at HK1 HC0 HC1 HC2 HC3 HA5 HM5
          have HF0 := Lib.hid (And.intro HC0.out HBL.out)
          have HF1 := Lib.hid (And.intro HC1.out HBL.out)
          have HF2 := Lib.hid (And.intro HC2.out HBL.out)
          have HF3 := Lib.hid (And.intro HC3.out HBL.out)
          have HFX := Lib.hid (And.intro (HX.out.cell 0) HX.out.lt)
          go_upto_region 26 with fail
          clear x0
          by_cases h3 : k1 = 8
          · subst h3
            refine Lex.wp_region_lex (fun w' => Below wr.heap.size wr w') (fun _ => true)
              [(0, true), (1, true), (2, true), (3, true), (4, true), (5, true), (6, true), (7, true), (8, true), (9, true), (10, true), (11, true), (12, true)]
              (by kernel_rfl) (by kernel_rfl) (by kernel_rfl) (by kernel_rfl) ⟨rfl, rfl, rfl, Nat.le_refl _, fun _ _ => rfl⟩ ?_
            have hb0 : Below wr.heap.size wr wr.drew := ⟨rfl, rfl, rfl, Nat.le_refl _, fun _ _ => rfl⟩
            have hw0 : Below w.heap.size w wr.drew := ⟨HB.out.os, HB.out.tape, HB.out.output, HB.out.size, HB.out.block⟩
            generalize hV0 : wr.drew = V0 at *
            clear hV0
            iterate 8 (refine Lex.lex_take (v := ?_) rfl rfl (by rfl) (fun _ hS => ?_) ?_; rotate_left 1; (focus (have g0 := (hS.cell HF0.out.2).trans HF0.out.1; have g1 := (hS.cell HF1.out.2).trans HF1.out.1; have g2 := (hS.cell HF2.out.2).trans HF2.out.1; have g3 := (hS.cell HF3.out.2).trans HF3.out.1; have g4 := (hS.cell HFX.out.2).trans HFX.out.1; clear hS; go_simp; with_reducible rfl)); simp only [List.setIfInBounds_toArray, List.set_cons_zero, List.set_cons_succ])
            iterate 4 (refine Lex.lex_skip rfl rfl (by rfl) ?_; simp only [List.setIfInBounds_toArray, List.set_cons_zero, List.set_cons_succ])
            refine Lex.lex_take (v := ?_) rfl rfl (by rfl) (fun _ hS => ?_) ?_; rotate_left 1; (focus (have g0 := (hS.cell HF0.out.2).trans HF0.out.1; have g1 := (hS.cell HF1.out.2).trans HF1.out.1; have g2 := (hS.cell HF2.out.2).trans HF2.out.1; have g3 := (hS.cell HF3.out.2).trans HF3.out.1; have g4 := (hS.cell HFX.out.2).trans HFX.out.1; clear hS; go_simp; with_reducible rfl)); simp only [List.setIfInBounds_toArray, List.set_cons_zero, List.set_cons_succ]
            refine Lex.lex_nil ?_
            have HV0 := Lib.hid hb0
            clear hb0 hw0
            have p0 := (HV0.out.cell (p := ⟨b, off, none⟩) HBL.out).trans HC0.out
            have p1 := (HV0.out.cell (p := ⟨b, off + 1, none⟩) HBL.out).trans HC1.out
            have p2 := (HV0.out.cell (p := ⟨b, off + 2, none⟩) HBL.out).trans HC2.out
            have p3 := (HV0.out.cell (p := ⟨b, off + 3, none⟩) HBL.out).trans HC3.out
            have HZn := Lib.hid (HZ.out.below HV0.out)
            have HYn := Lib.hid (HY.out.below HV0.out)
            have y0 := HYn.out.cell 0
            have y1 := HYn.out.cell 1
            have y2 := HYn.out.cell 2
            have y3 := HYn.out.cell 3
            have z0 := HZn.out.cell 0
            have z1 := HZn.out.cell 1
            have z2 := HZn.out.cell 2
            have z3 := HZn.out.cell 3
            have g0 := HZn.out.free 0
            have g1 := HZn.out.free 1
            have g2 := HZn.out.free 2
            have g3 := HZn.out.free 3
            have HE := Lib.hid ((((HZn.out.set 0 (.int .i64 8)).set 1 (.string ⟨(nm1 : List UInt8).toArray⟩)).set 2 (.int .i64 n1)).set 3 (.slice A5 m5 c5))
            have HEB := Lib.hid (((((HB.out.trans (HV0.out.mono HB.out.size)).setCell (p := ⟨R, 0, none⟩) HRL.out (.int .i64 8)).setCell (p := ⟨R, 1, none⟩) HRL.out (.string ⟨(nm1 : List UInt8).toArray⟩)).setCell (p := ⟨R, 2, none⟩) HRL.out (.int .i64 n1)).setCell (p := ⟨R, 3, none⟩) HRL.out (.slice A5 m5 c5))
            have HEK := Lib.hid ((((((HK1.out.below HV0.out).set ⟨R, 0, none⟩ HRN.out (.int .i64 8)).set ⟨R, 1, none⟩ HRN.out (.string ⟨(nm1 : List UInt8).toArray⟩)).set ⟨R, 2, none⟩ HRN.out (.int .i64 n1)).set ⟨R, 3, none⟩ HRN.out (.slice A5 m5 c5)).mono (T := fun b => w.heap.size ≤ b) (fun b hb _ => by have := HRO.out; omega))
            have HPR := Lib.hid (show ((8, nm1, n1, ks1) : Tm) = _ from ((HRES.out.trans (show _ = ((8, nm1, n1, ks1) : Tm) by exact (if_neg (by omega)).trans ((if_neg (by omega)).trans ((if_neg (by omega)).trans ((if_neg (by omega)).trans ((if_neg (by omega)).trans (if_pos ⟨by omega, .inl rfl⟩))))))).symm))
            clear HRES
            go_wp2
            have r0 := HE.out.cell 0
            have r1 := HE.out.cell 1
            have r2 := HE.out.cell 2
            have r3 := HE.out.cell 3
            refine bodyPost_ret (v := .agg #[.int .i64 8, .string ⟨(nm1 : List UInt8).toArray⟩, .int .i64 n1, .slice A5 m5 c5]) ?_ rfl ⟨(8, nm1, n1, ks1), _, rfl, ⟨.slice A5 m5 c5, rfl, HEK.out⟩, HPR.out, HEB.out⟩
            simp at r0 r1 r2 r3
            simp [results, Tryz.results51, go_sem, r0, r1, r2, r3]
          · have d3 : (k1 == 8) = false := by rw [beq_eq_false_iff_ne]; exact h3
            have d4 : decide (k1 = 8) = false := decide_eq_false h3
            by_cases h1 : k1 = 1
            · subst h1
              refine Lex.wp_region_lex (fun w' => Below wr.heap.size wr w') (fun _ => true)
                [(0, true), (1, true), (2, true), (3, true), (4, true), (5, true), (6, true), (7, true), (8, true), (9, true), (10, true), (11, false), (12, true)]
                (by kernel_rfl) (by kernel_rfl) (by kernel_rfl) (by kernel_rfl) ⟨rfl, rfl, rfl, Nat.le_refl _, fun _ _ => rfl⟩ ?_
              have hb0 : Below wr.heap.size wr wr.drew := ⟨rfl, rfl, rfl, Nat.le_refl _, fun _ _ => rfl⟩
              have hw0 : Below w.heap.size w wr.drew := ⟨HB.out.os, HB.out.tape, HB.out.output, HB.out.size, HB.out.block⟩
              generalize hV0 : wr.drew = V0 at *
              clear hV0
              iterate 11 (refine Lex.lex_take (v := ?_) rfl rfl (by rfl) (fun _ hS => ?_) ?_; rotate_left 1; (focus (have g0 := (hS.cell HF0.out.2).trans HF0.out.1; have g1 := (hS.cell HF1.out.2).trans HF1.out.1; have g2 := (hS.cell HF2.out.2).trans HF2.out.1; have g3 := (hS.cell HF3.out.2).trans HF3.out.1; have g4 := (hS.cell HFX.out.2).trans HFX.out.1; clear hS; go_simp; with_reducible rfl)); simp only [List.setIfInBounds_toArray, List.set_cons_zero, List.set_cons_succ])
              refine Lex.lex_do rfl ?_
              have cc := yes_b true (k := 1) rfl ⟨nm1.toArray⟩ n1 A5 m5 c5 V0
              go_wp2_with fail
              refine cc.mono ?_
              rintro e V1 ⟨rfl, hn1⟩
              have hb1 := hb0.trans (hn1.mono hb0.size)
              have hw1 := hw0.trans (hn1.mono hw0.size)
              clear cc hb0 hw0
              clear hn1
              go_wp2_with fail
              refine Lex.lexQ_normal (fun _ => hb1) ?_
              refine Lex.lex_take (v := ?_) rfl rfl (by rfl) (fun _ hS => ?_) ?_; rotate_left 1; (focus (have g0 := (hS.cell HF0.out.2).trans HF0.out.1; have g1 := (hS.cell HF1.out.2).trans HF1.out.1; have g2 := (hS.cell HF2.out.2).trans HF2.out.1; have g3 := (hS.cell HF3.out.2).trans HF3.out.1; have g4 := (hS.cell HFX.out.2).trans HFX.out.1; clear hS; go_simp; with_reducible rfl)); simp only [List.setIfInBounds_toArray, List.set_cons_zero, List.set_cons_succ]
              refine Lex.lex_nil ?_
              have HV1 := Lib.hid hb1
              clear hb1 hw1 d3 d4 h3
              have p0 := (HV1.out.cell (p := ⟨b, off, none⟩) HBL.out).trans HC0.out
              have p1 := (HV1.out.cell (p := ⟨b, off + 1, none⟩) HBL.out).trans HC1.out
              have p2 := (HV1.out.cell (p := ⟨b, off + 2, none⟩) HBL.out).trans HC2.out
              have p3 := (HV1.out.cell (p := ⟨b, off + 3, none⟩) HBL.out).trans HC3.out
              have HZn := Lib.hid (HZ.out.below HV1.out)
              have HYn := Lib.hid (HY.out.below HV1.out)
              have y0 := HYn.out.cell 0
              have y1 := HYn.out.cell 1
              have y2 := HYn.out.cell 2
              have y3 := HYn.out.cell 3
              have z0 := HZn.out.cell 0
              have z1 := HZn.out.cell 1
              have z2 := HZn.out.cell 2
              have z3 := HZn.out.cell 3
              have g0 := HZn.out.free 0
              have g1 := HZn.out.free 1
              have g2 := HZn.out.free 2
              have g3 := HZn.out.free 3
              have HE := Lib.hid ((((HZn.out.set 0 (.int .i64 1)).set 1 (.string ⟨(nm1 : List UInt8).toArray⟩)).set 2 (.int .i64 n1)).set 3 (.slice A5 m5 c5))
              have HEB := Lib.hid (((((HB.out.trans (HV1.out.mono HB.out.size)).setCell (p := ⟨R, 0, none⟩) HRL.out (.int .i64 1)).setCell (p := ⟨R, 1, none⟩) HRL.out (.string ⟨(nm1 : List UInt8).toArray⟩)).setCell (p := ⟨R, 2, none⟩) HRL.out (.int .i64 n1)).setCell (p := ⟨R, 3, none⟩) HRL.out (.slice A5 m5 c5))
              have HEK := Lib.hid ((((((HK1.out.below HV1.out).set ⟨R, 0, none⟩ HRN.out (.int .i64 1)).set ⟨R, 1, none⟩ HRN.out (.string ⟨(nm1 : List UInt8).toArray⟩)).set ⟨R, 2, none⟩ HRN.out (.int .i64 n1)).set ⟨R, 3, none⟩ HRN.out (.slice A5 m5 c5)).mono (T := fun b => w.heap.size ≤ b) (fun b hb _ => by have := HRO.out; omega))
              have HPR := Lib.hid (show ((1, nm1, n1, ks1) : Tm) = _ from ((HRES.out.trans (show _ = ((1, nm1, n1, ks1) : Tm) by exact (if_neg (by omega)).trans ((if_neg (by omega)).trans ((if_neg (by omega)).trans ((if_neg (by omega)).trans ((if_neg (by omega)).trans (if_pos ⟨by omega, .inr rfl⟩))))))).symm))
              clear HRES
              go_wp2
              have r0 := HE.out.cell 0
              have r1 := HE.out.cell 1
              have r2 := HE.out.cell 2
              have r3 := HE.out.cell 3
              refine bodyPost_ret (v := .agg #[.int .i64 1, .string ⟨(nm1 : List UInt8).toArray⟩, .int .i64 n1, .slice A5 m5 c5]) ?_ rfl ⟨(1, nm1, n1, ks1), _, rfl, ⟨.slice A5 m5 c5, rfl, HEK.out⟩, HPR.out, HEB.out⟩
              simp at r0 r1 r2 r3
              simp [results, Tryz.results51, go_sem, r0, r1, r2, r3]
            · skip
              refine Lex.wp_region_lex (fun w' => Below wr.heap.size wr w') (fun _ => true)
                [(0, true), (1, true), (2, true), (3, true), (4, true), (5, true), (6, true), (7, true), (8, true), (9, true), (10, true), (11, false), (12, true)]
                (by kernel_rfl) (by kernel_rfl) (by kernel_rfl) (by kernel_rfl) ⟨rfl, rfl, rfl, Nat.le_refl _, fun _ _ => rfl⟩ ?_
              have hb0 : Below wr.heap.size wr wr.drew := ⟨rfl, rfl, rfl, Nat.le_refl _, fun _ _ => rfl⟩
              have hw0 : Below w.heap.size w wr.drew := ⟨HB.out.os, HB.out.tape, HB.out.output, HB.out.size, HB.out.block⟩
              generalize hV0 : wr.drew = V0 at *
              clear hV0
              iterate 11 (refine Lex.lex_take (v := ?_) rfl rfl (by rfl) (fun _ hS => ?_) ?_; rotate_left 1; (focus (have g0 := (hS.cell HF0.out.2).trans HF0.out.1; have g1 := (hS.cell HF1.out.2).trans HF1.out.1; have g2 := (hS.cell HF2.out.2).trans HF2.out.1; have g3 := (hS.cell HF3.out.2).trans HF3.out.1; have g4 := (hS.cell HFX.out.2).trans HFX.out.1; clear hS; go_simp; with_reducible rfl)); simp only [List.setIfInBounds_toArray, List.set_cons_zero, List.set_cons_succ])
              refine Lex.lex_do rfl ?_
              have cc := yes_b false (k := k1) (decide_eq_false h1) ⟨nm1.toArray⟩ n1 A5 m5 c5 V0
              go_wp2_with fail
              refine cc.mono ?_
              rintro e V1 ⟨rfl, hn1⟩
              have hb1 := hb0.trans (hn1.mono hb0.size)
              have hw1 := hw0.trans (hn1.mono hw0.size)
              clear cc hb0 hw0
              clear hn1
              go_wp2_with fail
              refine Lex.lexQ_normal (fun _ => hb1) ?_
              refine Lex.lex_take (v := ?_) rfl rfl (by rfl) (fun _ hS => ?_) ?_; rotate_left 1; (focus (have g0 := (hS.cell HF0.out.2).trans HF0.out.1; have g1 := (hS.cell HF1.out.2).trans HF1.out.1; have g2 := (hS.cell HF2.out.2).trans HF2.out.1; have g3 := (hS.cell HF3.out.2).trans HF3.out.1; have g4 := (hS.cell HFX.out.2).trans HFX.out.1; clear hS; go_simp; with_reducible rfl)); simp only [List.setIfInBounds_toArray, List.set_cons_zero, List.set_cons_succ]
              refine Lex.lex_nil ?_
              have HV1 := Lib.hid hb1
              have HH1 := Lib.hid h1
              have HH3 := Lib.hid h3
              clear hb1 hw1 d3 d4 h1 h3
              have HZn := Lib.hid (HZ.out.below HV1.out)
              have HYn := Lib.hid (HY.out.below HV1.out)
              have y0 := HYn.out.cell 0
              have y1 := HYn.out.cell 1
              have y2 := HYn.out.cell 2
              have y3 := HYn.out.cell 3
              have z0 := HZn.out.cell 0
              have z1 := HZn.out.cell 1
              have z2 := HZn.out.cell 2
              have z3 := HZn.out.cell 3
              have g0 := HZn.out.free 0
              have g1 := HZn.out.free 1
              have g2 := HZn.out.free 2
              have g3 := HZn.out.free 3
              have HE := Lib.hid ((((HZn.out.set 0 (.int .i64 8)).set 1 (.string ⟨([] : List UInt8).toArray⟩)).set 2 (.int .i64 0)).set 3 (.slice (some ⟨b, off, none⟩) 1 c4))
              have HEB := Lib.hid (((((HB.out.trans (HV1.out.mono HB.out.size)).setCell (p := ⟨R, 0, none⟩) HRL.out (.int .i64 8)).setCell (p := ⟨R, 1, none⟩) HRL.out (.string ⟨([] : List UInt8).toArray⟩)).setCell (p := ⟨R, 2, none⟩) HRL.out (.int .i64 0)).setCell (p := ⟨R, 3, none⟩) HRL.out (.slice (some ⟨b, off, none⟩) 1 c4))
              have HEK := Lib.hid ((((((HKV.out.below HV1.out).set ⟨R, 0, none⟩ HRN.out (.int .i64 8)).set ⟨R, 1, none⟩ HRN.out (.string ⟨([] : List UInt8).toArray⟩)).set ⟨R, 2, none⟩ HRN.out (.int .i64 0)).set ⟨R, 3, none⟩ HRN.out (.slice (some ⟨b, off, none⟩) 1 c4)).mono (T := fun b => w.heap.size ≤ b) (fun b hb _ => by have := HRO.out; omega))
              have HPR := Lib.hid (show ((8, [], 0, .cons k1 nm1 n1 ks1 .nil) : Tm) = _ from ((HRES.out.trans (show _ = ((8, [], 0, .cons k1 nm1 n1 ks1 .nil) : Tm) by have q1 := HH1.out; have q3 := HH3.out; unfold shN; rw [if_neg (by omega), if_neg (by omega), if_neg (by omega), if_neg (by omega), if_neg (by omega), if_neg (fun q => q.2.elim q3 q1)]; rfl)).symm))
              clear HRES
              go_wp2
              have r0 := HE.out.cell 0
              have r1 := HE.out.cell 1
              have r2 := HE.out.cell 2
              have r3 := HE.out.cell 3
              refine bodyPost_ret (v := .agg #[.int .i64 8, .string ⟨([] : List UInt8).toArray⟩, .int .i64 0, .slice (some ⟨b, off, none⟩) 1 c4]) ?_ rfl ⟨(8, [], 0, .cons k1 nm1 n1 ks1 .nil), _, rfl, ⟨.slice (some ⟨b, off, none⟩) 1 c4, rfl, HEK.out⟩, HPR.out, HEB.out⟩
              simp at r0 r1 r2 r3
              simp [results, Tryz.results51, go_sem, r0, r1, r2, r3]
      · skip
        obtain ⟨k1, nm1, n1, ks1, rfl⟩ := Fo.len_one HSL.out
        obtain ⟨b, off, u1, rfl, hk1, c0, c1, c2, c3⟩ := HKA.out.cells0 (by rw [HSL.out]; omega)
        obtain ⟨A5, m5, c5, rfl, hm5, -, -, hka5⟩ := hk1.open'
        have HK1 := Lib.hid hk1
        have HA5 := Lib.hid hka5
        have HM5 := Lib.hid hm5
        have HBL := Lib.hid (show b < wr.heap.size from World.block_lt_of_cell? wr ⟨b, off, none⟩ c0)
        have HC0 := Lib.hid c0
        have HC1 := Lib.hid c1
        have HC2 := Lib.hid c2
        have HC3 := Lib.hid c3
        clear c0 c1 c2 c3 hk1 hka5 hm5
        dsimp only [Fo.get] at HK1 HC0 HC1 HC2 HC3 HA5 HM5
        by_cases h3 : k1 = 1
        · subst h3
          have p0 := (HW0.out.cell (p := ⟨b, off, none⟩) HBL.out).trans HC0.out
          have p1 := (HW0.out.cell (p := ⟨b, off + 1, none⟩) HBL.out).trans HC1.out
          have p2 := (HW0.out.cell (p := ⟨b, off + 2, none⟩) HBL.out).trans HC2.out
          have p3 := (HW0.out.cell (p := ⟨b, off + 3, none⟩) HBL.out).trans HC3.out
          have cy := yes_b true (k := 1) rfl ⟨(nm1 : List UInt8).toArray⟩ n1 A5 m5 c5 wr
          go_wp2_with fail
          refine cy.mono ?_
          rintro e V1 ⟨rfl, hb⟩
          have HV1 := Lib.hid (HW0.out.trans (hb.mono HW0.out.size))
          clear cy hb
          clear p0 p1 p2 p3
          have p0 := (HV1.out.cell (p := ⟨b, off, none⟩) HBL.out).trans HC0.out
          have p1 := (HV1.out.cell (p := ⟨b, off + 1, none⟩) HBL.out).trans HC1.out
          have p2 := (HV1.out.cell (p := ⟨b, off + 2, none⟩) HBL.out).trans HC2.out
          have p3 := (HV1.out.cell (p := ⟨b, off + 3, none⟩) HBL.out).trans HC3.out
          have HZn := Lib.hid (HZ.out.below HV1.out)
          have HYn := Lib.hid (HY.out.below HV1.out)
          have y0 := HYn.out.cell 0
          have y1 := HYn.out.cell 1
          have y2 := HYn.out.cell 2
          have y3 := HYn.out.cell 3
          have z0 := HZn.out.cell 0
          have z1 := HZn.out.cell 1
          have z2 := HZn.out.cell 2
          have z3 := HZn.out.cell 3
          have g0 := HZn.out.free 0
          have g1 := HZn.out.free 1
          have g2 := HZn.out.free 2
          have g3 := HZn.out.free 3
          have HE := Lib.hid ((((HZn.out.set 0 (.int .i64 1)).set 1 (.string ⟨(nm1 : List UInt8).toArray⟩)).set 2 (.int .i64 n1)).set 3 (.slice A5 m5 c5))
          have HEB := Lib.hid (((((HB.out.trans (HV1.out.mono HB.out.size)).setCell (p := ⟨R, 0, none⟩) HRL.out (.int .i64 1)).setCell (p := ⟨R, 1, none⟩) HRL.out (.string ⟨(nm1 : List UInt8).toArray⟩)).setCell (p := ⟨R, 2, none⟩) HRL.out (.int .i64 n1)).setCell (p := ⟨R, 3, none⟩) HRL.out (.slice A5 m5 c5))
          have HEK := Lib.hid ((((((HK1.out.below HV1.out).set ⟨R, 0, none⟩ HRN.out (.int .i64 1)).set ⟨R, 1, none⟩ HRN.out (.string ⟨(nm1 : List UInt8).toArray⟩)).set ⟨R, 2, none⟩ HRN.out (.int .i64 n1)).set ⟨R, 3, none⟩ HRN.out (.slice A5 m5 c5)).mono (T := fun b => w.heap.size ≤ b) (fun b hb _ => by have := HRO.out; omega))
          have HPR := Lib.hid (show ((1, nm1, n1, ks1) : Tm) = _ from ((HRES.out.trans (show _ = ((1, nm1, n1, ks1) : Tm) by unfold shN; rw [if_neg (by omega), if_neg (by omega), if_neg (by omega), if_neg (by omega), if_neg (by omega), if_neg (by omega), if_neg (by omega), if_pos ⟨rfl, rfl⟩]; rfl)).symm))
          clear HRES
          go_wp2
          have r0 := HE.out.cell 0
          have r1 := HE.out.cell 1
          have r2 := HE.out.cell 2
          have r3 := HE.out.cell 3
          refine bodyPost_ret (v := .agg #[.int .i64 1, .string ⟨(nm1 : List UInt8).toArray⟩, .int .i64 n1, .slice A5 m5 c5]) ?_ rfl ⟨(1, nm1, n1, ks1), _, rfl, ⟨.slice A5 m5 c5, rfl, HEK.out⟩, HPR.out, HEB.out⟩
          simp at r0 r1 r2 r3
          simp [results, Tryz.results51, go_sem, r0, r1, r2, r3]
        · skip
          have p0 := (HW0.out.cell (p := ⟨b, off, none⟩) HBL.out).trans HC0.out
          have p1 := (HW0.out.cell (p := ⟨b, off + 1, none⟩) HBL.out).trans HC1.out
          have p2 := (HW0.out.cell (p := ⟨b, off + 2, none⟩) HBL.out).trans HC2.out
          have p3 := (HW0.out.cell (p := ⟨b, off + 3, none⟩) HBL.out).trans HC3.out
          have cy := yes_b false (k := k1) (decide_eq_false h3) ⟨(nm1 : List UInt8).toArray⟩ n1 A5 m5 c5 wr
          go_wp2_with fail
          refine cy.mono ?_
          rintro e V1 ⟨rfl, hb⟩
          have HV1 := Lib.hid (HW0.out.trans (hb.mono HW0.out.size))
          clear cy hb
          clear p0 p1 p2 p3
          have HZn := Lib.hid (HZ.out.below HV1.out)
          have HYn := Lib.hid (HY.out.below HV1.out)
          have y0 := HYn.out.cell 0
          have y1 := HYn.out.cell 1
          have y2 := HYn.out.cell 2
          have y3 := HYn.out.cell 3
          have z0 := HZn.out.cell 0
          have z1 := HZn.out.cell 1
          have z2 := HZn.out.cell 2
          have z3 := HZn.out.cell 3
          have g0 := HZn.out.free 0
          have g1 := HZn.out.free 1
          have g2 := HZn.out.free 2
          have g3 := HZn.out.free 3
          have HE := Lib.hid ((((HZn.out.set 0 (.int .i64 10)).set 1 (.string ⟨([] : List UInt8).toArray⟩)).set 2 (.int .i64 n)).set 3 (.slice (some ⟨b, off, none⟩) 1 c4))
          have HEB := Lib.hid (((((HB.out.trans (HV1.out.mono HB.out.size)).setCell (p := ⟨R, 0, none⟩) HRL.out (.int .i64 10)).setCell (p := ⟨R, 1, none⟩) HRL.out (.string ⟨([] : List UInt8).toArray⟩)).setCell (p := ⟨R, 2, none⟩) HRL.out (.int .i64 n)).setCell (p := ⟨R, 3, none⟩) HRL.out (.slice (some ⟨b, off, none⟩) 1 c4))
          have HEK := Lib.hid ((((((HKV.out.below HV1.out).set ⟨R, 0, none⟩ HRN.out (.int .i64 10)).set ⟨R, 1, none⟩ HRN.out (.string ⟨([] : List UInt8).toArray⟩)).set ⟨R, 2, none⟩ HRN.out (.int .i64 n)).set ⟨R, 3, none⟩ HRN.out (.slice (some ⟨b, off, none⟩) 1 c4)).mono (T := fun b => w.heap.size ≤ b) (fun b hb _ => by have := HRO.out; omega))
          have HPR := Lib.hid (show ((10, [], n, .cons k1 nm1 n1 ks1 .nil) : Tm) = _ from ((HRES.out.trans (show _ = ((10, [], n, .cons k1 nm1 n1 ks1 .nil) : Tm) by unfold shN; rw [if_neg (by omega), if_neg (by omega), if_neg (by omega), if_neg (by omega), if_neg (by omega), if_neg (by omega), if_neg (by omega), if_neg (fun q => h3 q.2)])).symm))
          clear HRES
          go_wp2
          have r0 := HE.out.cell 0
          have r1 := HE.out.cell 1
          have r2 := HE.out.cell 2
          have r3 := HE.out.cell 3
          refine bodyPost_ret (v := .agg #[.int .i64 10, .string ⟨([] : List UInt8).toArray⟩, .int .i64 n, .slice (some ⟨b, off, none⟩) 1 c4]) ?_ rfl ⟨(10, [], n, .cons k1 nm1 n1 ks1 .nil), _, rfl, ⟨.slice (some ⟨b, off, none⟩) 1 c4, rfl, HEK.out⟩, HPR.out, HEB.out⟩
          simp at r0 r1 r2 r3
          simp [results, Tryz.results51, go_sem, r0, r1, r2, r3]
      · rcases hk with rfl | rfl | rfl
        · skip
          obtain ⟨k1, nm1, n1, ks1, k2, nm2, n2, ks2, rfl⟩ := Fo.len_two HSL.out
          obtain ⟨b, off, u1, rfl, hk1, c0, c1, c2, c3⟩ := HKA.out.cells0 (by rw [HSL.out]; omega)
          obtain ⟨A5, m5, c5, rfl, hm5, -, -, hka5⟩ := hk1.open'
          have HK1 := Lib.hid hk1
          have HA5 := Lib.hid hka5
          have HM5 := Lib.hid hm5
          have HBL := Lib.hid (show b < wr.heap.size from World.block_lt_of_cell? wr ⟨b, off, none⟩ c0)
          have HC0 := Lib.hid c0
          have HC1 := Lib.hid c1
          have HC2 := Lib.hid c2
          have HC3 := Lib.hid c3
          clear c0 c1 c2 c3 hk1 hka5 hm5
          obtain ⟨u2, hk2, d0, d1, d2, d3⟩ := KidsAt.get (i := 1) HKA.out (by rw [HSL.out]; omega)
          obtain ⟨A6, m6, c6, rfl, -⟩ := hk2.open'
          rw [Nat.one_mul] at d0 d1 d2 d3
          have HK2 := Lib.hid hk2
          have HD0 := Lib.hid d0
          have HD1 := Lib.hid d1
          have HD2 := Lib.hid d2
          have HD3 := Lib.hid d3
          clear d0 d1 d2 d3 hk2
          dsimp only [Fo.get] at HK1 HC0 HC1 HC2 HC3 HA5 HM5 HK2 HD0 HD1 HD2 HD3
          by_cases h3 : k1 = 1
          · subst h3
            have p0 := (HW0.out.cell (p := ⟨b, off, none⟩) HBL.out).trans HC0.out
            have p1 := (HW0.out.cell (p := ⟨b, off + 1, none⟩) HBL.out).trans HC1.out
            have p2 := (HW0.out.cell (p := ⟨b, off + 2, none⟩) HBL.out).trans HC2.out
            have p3 := (HW0.out.cell (p := ⟨b, off + 3, none⟩) HBL.out).trans HC3.out
            have cy := yes_b true (k := 1) rfl ⟨(nm1 : List UInt8).toArray⟩ n1 A5 m5 c5 wr
            go_wp2_with fail
            refine cy.mono ?_
            rintro e V1 ⟨rfl, hb⟩
            have HV1 := Lib.hid (HW0.out.trans (hb.mono HW0.out.size))
            clear cy hb
            clear p0 p1 p2 p3
            have q0 := (HV1.out.cell (p := ⟨b, off + 4, none⟩) HBL.out).trans HD0.out
            have q1 := (HV1.out.cell (p := ⟨b, off + 4 + 1, none⟩) HBL.out).trans HD1.out
            have q2 := (HV1.out.cell (p := ⟨b, off + 4 + 2, none⟩) HBL.out).trans HD2.out
            have q3 := (HV1.out.cell (p := ⟨b, off + 4 + 3, none⟩) HBL.out).trans HD3.out
            have HZn := Lib.hid (HZ.out.below HV1.out)
            have HYn := Lib.hid (HY.out.below HV1.out)
            have y0 := HYn.out.cell 0
            have y1 := HYn.out.cell 1
            have y2 := HYn.out.cell 2
            have y3 := HYn.out.cell 3
            have z0 := HZn.out.cell 0
            have z1 := HZn.out.cell 1
            have z2 := HZn.out.cell 2
            have z3 := HZn.out.cell 3
            have g0 := HZn.out.free 0
            have g1 := HZn.out.free 1
            have g2 := HZn.out.free 2
            have g3 := HZn.out.free 3
            have HE := Lib.hid ((((HZn.out.set 0 (.int .i64 k2)).set 1 (.string ⟨(nm2 : List UInt8).toArray⟩)).set 2 (.int .i64 n2)).set 3 (.slice A6 m6 c6))
            have HEB := Lib.hid (((((HB.out.trans (HV1.out.mono HB.out.size)).setCell (p := ⟨R, 0, none⟩) HRL.out (.int .i64 k2)).setCell (p := ⟨R, 1, none⟩) HRL.out (.string ⟨(nm2 : List UInt8).toArray⟩)).setCell (p := ⟨R, 2, none⟩) HRL.out (.int .i64 n2)).setCell (p := ⟨R, 3, none⟩) HRL.out (.slice A6 m6 c6))
            have HEK := Lib.hid ((((((HK2.out.below HV1.out).set ⟨R, 0, none⟩ HRN.out (.int .i64 k2)).set ⟨R, 1, none⟩ HRN.out (.string ⟨(nm2 : List UInt8).toArray⟩)).set ⟨R, 2, none⟩ HRN.out (.int .i64 n2)).set ⟨R, 3, none⟩ HRN.out (.slice A6 m6 c6)).mono (T := fun b => w.heap.size ≤ b) (fun b hb _ => by have := HRO.out; omega))
            have HPR := Lib.hid (show ((k2, nm2, n2, ks2) : Tm) = _ from ((HRES.out.trans (show _ = ((k2, nm2, n2, ks2) : Tm) by unfold shN; rw [if_neg (by omega), if_pos ⟨rfl, rfl⟩]; rfl)).symm))
            clear HRES
            go_wp2
            have r0 := HE.out.cell 0
            have r1 := HE.out.cell 1
            have r2 := HE.out.cell 2
            have r3 := HE.out.cell 3
            refine bodyPost_ret (v := .agg #[.int .i64 k2, .string ⟨(nm2 : List UInt8).toArray⟩, .int .i64 n2, .slice A6 m6 c6]) ?_ rfl ⟨(k2, nm2, n2, ks2), _, rfl, ⟨.slice A6 m6 c6, rfl, HEK.out⟩, HPR.out, HEB.out⟩
            simp at r0 r1 r2 r3
            simp [results, Tryz.results51, go_sem, r0, r1, r2, r3]
          · have HH3 := Lib.hid h3
            have p0 := (HW0.out.cell (p := ⟨b, off, none⟩) HBL.out).trans HC0.out
            have p1 := (HW0.out.cell (p := ⟨b, off + 1, none⟩) HBL.out).trans HC1.out
            have p2 := (HW0.out.cell (p := ⟨b, off + 2, none⟩) HBL.out).trans HC2.out
            have p3 := (HW0.out.cell (p := ⟨b, off + 3, none⟩) HBL.out).trans HC3.out
            have cy := yes_b false (k := k1) (decide_eq_false h3) ⟨(nm1 : List UInt8).toArray⟩ n1 A5 m5 c5 wr
            go_wp2_with fail
            refine cy.mono ?_
            rintro e V1 ⟨rfl, hb⟩
            have HV1 := Lib.hid (HW0.out.trans (hb.mono HW0.out.size))
            clear cy hb
            clear p0 p1 p2 p3
            clear h3
            by_cases h4 : k2 = 1
            · subst h4
              have q0 := (HV1.out.cell (p := ⟨b, off + 4, none⟩) HBL.out).trans HD0.out
              have q1 := (HV1.out.cell (p := ⟨b, off + 4 + 1, none⟩) HBL.out).trans HD1.out
              have q2 := (HV1.out.cell (p := ⟨b, off + 4 + 2, none⟩) HBL.out).trans HD2.out
              have q3 := (HV1.out.cell (p := ⟨b, off + 4 + 3, none⟩) HBL.out).trans HD3.out
              have cy := yes_b true (k := 1) rfl ⟨(nm2 : List UInt8).toArray⟩ n2 A6 m6 c6 V1
              go_wp2_with fail
              refine cy.mono ?_
              rintro e V2 ⟨rfl, hb⟩
              have HV2 := Lib.hid (HV1.out.trans (hb.mono HV1.out.size))
              clear cy hb
              clear q0 q1 q2 q3
              have p0 := (HV2.out.cell (p := ⟨b, off, none⟩) HBL.out).trans HC0.out
              have p1 := (HV2.out.cell (p := ⟨b, off + 1, none⟩) HBL.out).trans HC1.out
              have p2 := (HV2.out.cell (p := ⟨b, off + 2, none⟩) HBL.out).trans HC2.out
              have p3 := (HV2.out.cell (p := ⟨b, off + 3, none⟩) HBL.out).trans HC3.out
              have HZn := Lib.hid (HZ.out.below HV2.out)
              have HYn := Lib.hid (HY.out.below HV2.out)
              have y0 := HYn.out.cell 0
              have y1 := HYn.out.cell 1
              have y2 := HYn.out.cell 2
              have y3 := HYn.out.cell 3
              have z0 := HZn.out.cell 0
              have z1 := HZn.out.cell 1
              have z2 := HZn.out.cell 2
              have z3 := HZn.out.cell 3
              have g0 := HZn.out.free 0
              have g1 := HZn.out.free 1
              have g2 := HZn.out.free 2
              have g3 := HZn.out.free 3
              have HE := Lib.hid ((((HZn.out.set 0 (.int .i64 k1)).set 1 (.string ⟨(nm1 : List UInt8).toArray⟩)).set 2 (.int .i64 n1)).set 3 (.slice A5 m5 c5))
              have HEB := Lib.hid (((((HB.out.trans (HV2.out.mono HB.out.size)).setCell (p := ⟨R, 0, none⟩) HRL.out (.int .i64 k1)).setCell (p := ⟨R, 1, none⟩) HRL.out (.string ⟨(nm1 : List UInt8).toArray⟩)).setCell (p := ⟨R, 2, none⟩) HRL.out (.int .i64 n1)).setCell (p := ⟨R, 3, none⟩) HRL.out (.slice A5 m5 c5))
              have HEK := Lib.hid ((((((HK1.out.below HV2.out).set ⟨R, 0, none⟩ HRN.out (.int .i64 k1)).set ⟨R, 1, none⟩ HRN.out (.string ⟨(nm1 : List UInt8).toArray⟩)).set ⟨R, 2, none⟩ HRN.out (.int .i64 n1)).set ⟨R, 3, none⟩ HRN.out (.slice A5 m5 c5)).mono (T := fun b => w.heap.size ≤ b) (fun b hb _ => by have := HRO.out; omega))
              have HPR := Lib.hid (show ((k1, nm1, n1, ks1) : Tm) = _ from ((HRES.out.trans (show _ = ((k1, nm1, n1, ks1) : Tm) by have h3 := HH3.out; unfold shN; rw [if_neg (by omega), if_neg (fun q => h3 q.2), if_pos ⟨rfl, .inl rfl⟩]; rfl)).symm))
              clear HRES
              go_wp2
              have r0 := HE.out.cell 0
              have r1 := HE.out.cell 1
              have r2 := HE.out.cell 2
              have r3 := HE.out.cell 3
              refine bodyPost_ret (v := .agg #[.int .i64 k1, .string ⟨(nm1 : List UInt8).toArray⟩, .int .i64 n1, .slice A5 m5 c5]) ?_ rfl ⟨(k1, nm1, n1, ks1), _, rfl, ⟨.slice A5 m5 c5, rfl, HEK.out⟩, HPR.out, HEB.out⟩
              simp at r0 r1 r2 r3
              simp [results, Tryz.results51, go_sem, r0, r1, r2, r3]
            · have HH4 := Lib.hid h4
              have hsh := HSH.out
              simp only [Fo.shp, Bool.and_eq_true] at hsh
              have HT1 := Lib.hid (show (Tm.fo (k1, nm1, n1, ks1)).shp = true by simp [Tm.fo, Fo.shp, hsh.1.1, hsh.1.2])
              have HT2 := Lib.hid (show (Tm.fo (k2, nm2, n2, ks2)).shp = true by simp [Tm.fo, Fo.shp, hsh.2.1.1, hsh.2.1.2])
              have HN1 := Lib.hid (show (Tm.fo (k1, nm1, n1, ks1)).cnt ≤ 64 by have h := HSC.out; simp only [Fo.cnt] at h; simp only [Tm.fo, Fo.cnt]; omega)
              have HN2 := Lib.hid (show (Tm.fo (k2, nm2, n2, ks2)).cnt ≤ 64 by have h := HSC.out; simp only [Fo.cnt] at h; simp only [Tm.fo, Fo.cnt]; omega)
              have HEQ := Lib.hid (text_same (t := (k1, nm1, n1, ks1)) (u := (k2, nm2, n2, ks2)) (by simp [Tm.ok, HT1.out, HN1.out]) (by simp [Tm.ok, HT2.out, HN2.out]))
              clear hsh
              have q0 := (HV1.out.cell (p := ⟨b, off + 4, none⟩) HBL.out).trans HD0.out
              have q1 := (HV1.out.cell (p := ⟨b, off + 4 + 1, none⟩) HBL.out).trans HD1.out
              have q2 := (HV1.out.cell (p := ⟨b, off + 4 + 2, none⟩) HBL.out).trans HD2.out
              have q3 := (HV1.out.cell (p := ⟨b, off + 4 + 3, none⟩) HBL.out).trans HD3.out
              have cy := yes_b false (k := k2) (decide_eq_false h4) ⟨(nm2 : List UInt8).toArray⟩ n2 A6 m6 c6 V1
              go_wp2_with fail
              refine cy.mono ?_
              rintro e V2 ⟨rfl, hb⟩
              have HV2 := Lib.hid (HV1.out.trans (hb.mono HV1.out.size))
              clear cy hb
              clear q0 q1 q2 q3
              clear h4
              have HF0 := Lib.hid (And.intro ((HV2.out.cell (p := ⟨b, off, none⟩) HBL.out).trans HC0.out) (Nat.lt_of_lt_of_le HBL.out HV2.out.size))
              have HF1 := Lib.hid (And.intro ((HV2.out.cell (p := ⟨b, off + 1, none⟩) HBL.out).trans HC1.out) (Nat.lt_of_lt_of_le HBL.out HV2.out.size))
              have HF2 := Lib.hid (And.intro ((HV2.out.cell (p := ⟨b, off + 2, none⟩) HBL.out).trans HC2.out) (Nat.lt_of_lt_of_le HBL.out HV2.out.size))
              have HF3 := Lib.hid (And.intro ((HV2.out.cell (p := ⟨b, off + 3, none⟩) HBL.out).trans HC3.out) (Nat.lt_of_lt_of_le HBL.out HV2.out.size))
              have HF4 := Lib.hid (And.intro ((HV2.out.cell (p := ⟨b, off + 4, none⟩) HBL.out).trans HD0.out) (Nat.lt_of_lt_of_le HBL.out HV2.out.size))
              have HF5 := Lib.hid (And.intro ((HV2.out.cell (p := ⟨b, off + 4 + 1, none⟩) HBL.out).trans HD1.out) (Nat.lt_of_lt_of_le HBL.out HV2.out.size))
              have HF6 := Lib.hid (And.intro ((HV2.out.cell (p := ⟨b, off + 4 + 2, none⟩) HBL.out).trans HD2.out) (Nat.lt_of_lt_of_le HBL.out HV2.out.size))
              have HF7 := Lib.hid (And.intro ((HV2.out.cell (p := ⟨b, off + 4 + 3, none⟩) HBL.out).trans HD3.out) (Nat.lt_of_lt_of_le HBL.out HV2.out.size))
              have HBV := Lib.hid (HB.out.trans (HV2.out.mono HB.out.size))
              have HX1 := Lib.hid (show ∀ W, Below w.heap.size w W → Below wr.heap.size wr W → _ from fun W h h2 => HTX.out (k1, nm1, n1, ks1) (fun b => O + 1 ≤ b) _ W h ⟨_, rfl, HK1.out.below h2⟩ HT1.out HN1.out)
              have HX2 := Lib.hid (show ∀ W, Below w.heap.size w W → Below wr.heap.size wr W → _ from fun W h h2 => HTX.out (k2, nm2, n2, ks2) (fun b => O + 1 ≤ b) _ W h ⟨_, rfl, HK2.out.below h2⟩ HT2.out HN2.out)
              obtain ⟨sm, hsm⟩ : ∃ sm, Tm.same (k1, nm1, n1, ks1) (k2, nm2, n2, ks2) = sm := ⟨_, rfl⟩
              have HSM := Lib.hid hsm
              have heq := HEQ.out
              rw [hsm] at heq
              obtain ⟨tx1, htx1⟩ : ∃ tx1, Tm.tx (k1, nm1, n1, ks1) = tx1 := ⟨_, rfl⟩
              obtain ⟨tx2, htx2⟩ : ∃ tx2, Tm.tx (k2, nm2, n2, ks2) = tx2 := ⟨_, rfl⟩
              rw [htx1, htx2] at heq
              have ct1 := HX1.out
              have ct2 := HX2.out
              rw [htx1] at ct1
              rw [htx2] at ct2
              have HCT1 := Lib.hid ct1
              have HCT2 := Lib.hid ct2
              have hbe : ((⟨tx1.toArray⟩ : ByteArray) == ⟨tx2.toArray⟩) = sm := (ba_eq tx1 tx2).trans heq
              have hbe2 : (tx1 == tx2) = sm := by
                rw [← heq]
                by_cases h : tx1 = tx2
                · subst h; simp
                · simp [h]
              clear htx1 htx2 heq hsm ct1 ct2
              go_upto_region 16 with fail
              refine Lex.wp_region_lex (fun w' => Below V2.heap.size V2 w') (fun _ => true)
                [(0, true), (1, true), (2, true), (4, true), (5, true), (6, true), (3, false), (7, false), (8, true), (9, false)]
                (by kernel_rfl) (by kernel_rfl) (by kernel_rfl) (by kernel_rfl) ⟨rfl, rfl, rfl, Nat.le_refl _, fun _ _ => rfl⟩ ?_
              have hb0 : Below V2.heap.size V2 V2.drew := ⟨rfl, rfl, rfl, Nat.le_refl _, fun _ _ => rfl⟩
              have hw0 : Below w.heap.size w V2.drew := ⟨HBV.out.os, HBV.out.tape, HBV.out.output, HBV.out.size, HBV.out.block⟩
              generalize hV0 : V2.drew = V0 at *
              clear hV0
              iterate 6 (refine Lex.lex_take (v := ?_) rfl rfl (by rfl) (fun _ hS => ?_) ?_; rotate_left 1; (focus (have g0 := (hS.cell HF0.out.2).trans HF0.out.1; have g1 := (hS.cell HF1.out.2).trans HF1.out.1; have g2 := (hS.cell HF2.out.2).trans HF2.out.1; have g3 := (hS.cell HF3.out.2).trans HF3.out.1; have g4 := (hS.cell HF4.out.2).trans HF4.out.1; have g5 := (hS.cell HF5.out.2).trans HF5.out.1; have g6 := (hS.cell HF6.out.2).trans HF6.out.1; have g7 := (hS.cell HF7.out.2).trans HF7.out.1; clear hS; go_simp; with_reducible rfl)); simp only [List.setIfInBounds_toArray, List.set_cons_zero, List.set_cons_succ])
              refine Lex.lex_do rfl ?_
              have cc := HCT1.out V0 hw0 (HV2.out.trans (hb0.mono HV2.out.size))
              go_wp2_with fail
              refine cc.mono ?_
              rintro e V1 ⟨rfl, hn1⟩
              have hb1 := hb0.trans (hn1.mono hb0.size)
              have hw1 := hw0.trans (hn1.mono hw0.size)
              clear cc hb0 hw0
              clear hn1
              go_wp2_with fail
              refine Lex.lexQ_normal (fun _ => hb1) ?_
              refine Lex.lex_do rfl ?_
              have cc := HCT2.out V1 hw1 (HV2.out.trans (hb1.mono HV2.out.size))
              go_wp2_with fail
              refine cc.mono ?_
              rintro e V2 ⟨rfl, hn2⟩
              have hb2 := hb1.trans (hn2.mono hb1.size)
              have hw2 := hw1.trans (hn2.mono hw1.size)
              clear cc hb1 hw1
              clear hn2
              go_wp2_with fail
              refine Lex.lexQ_normal (fun _ => hb2) ?_
              refine Lex.lex_take (v := ?_) rfl rfl (by rfl) (fun _ hS => ?_) ?_; rotate_left 1; (focus (have g0 := (hS.cell HF0.out.2).trans HF0.out.1; have g1 := (hS.cell HF1.out.2).trans HF1.out.1; have g2 := (hS.cell HF2.out.2).trans HF2.out.1; have g3 := (hS.cell HF3.out.2).trans HF3.out.1; have g4 := (hS.cell HF4.out.2).trans HF4.out.1; have g5 := (hS.cell HF5.out.2).trans HF5.out.1; have g6 := (hS.cell HF6.out.2).trans HF6.out.1; have g7 := (hS.cell HF7.out.2).trans HF7.out.1; clear hS; go_simp; with_reducible rfl)); simp only [List.setIfInBounds_toArray, List.set_cons_zero, List.set_cons_succ]
              refine Lex.lex_do rfl ?_
              go_wp2_with fail
              refine Lex.lexQ_normal (fun _ => hb2) ?_
              refine Lex.lex_nil ?_
              have HV4 := Lib.hid (HV2.out.trans (hb2.mono HV2.out.size))
              clear hw2 hb2 hbe
              cases sm with
              | true =>
                have p0 := (HV4.out.cell (p := ⟨b, off, none⟩) HBL.out).trans HC0.out
                have p1 := (HV4.out.cell (p := ⟨b, off + 1, none⟩) HBL.out).trans HC1.out
                have p2 := (HV4.out.cell (p := ⟨b, off + 2, none⟩) HBL.out).trans HC2.out
                have p3 := (HV4.out.cell (p := ⟨b, off + 3, none⟩) HBL.out).trans HC3.out
                have HZn := Lib.hid (HZ.out.below HV4.out)
                have HYn := Lib.hid (HY.out.below HV4.out)
                have y0 := HYn.out.cell 0
                have y1 := HYn.out.cell 1
                have y2 := HYn.out.cell 2
                have y3 := HYn.out.cell 3
                have z0 := HZn.out.cell 0
                have z1 := HZn.out.cell 1
                have z2 := HZn.out.cell 2
                have z3 := HZn.out.cell 3
                have g0 := HZn.out.free 0
                have g1 := HZn.out.free 1
                have g2 := HZn.out.free 2
                have g3 := HZn.out.free 3
                have HE := Lib.hid ((((HZn.out.set 0 (.int .i64 k1)).set 1 (.string ⟨(nm1 : List UInt8).toArray⟩)).set 2 (.int .i64 n1)).set 3 (.slice A5 m5 c5))
                have HEB := Lib.hid (((((HB.out.trans (HV4.out.mono HB.out.size)).setCell (p := ⟨R, 0, none⟩) HRL.out (.int .i64 k1)).setCell (p := ⟨R, 1, none⟩) HRL.out (.string ⟨(nm1 : List UInt8).toArray⟩)).setCell (p := ⟨R, 2, none⟩) HRL.out (.int .i64 n1)).setCell (p := ⟨R, 3, none⟩) HRL.out (.slice A5 m5 c5))
                have HEK := Lib.hid ((((((HK1.out.below HV4.out).set ⟨R, 0, none⟩ HRN.out (.int .i64 k1)).set ⟨R, 1, none⟩ HRN.out (.string ⟨(nm1 : List UInt8).toArray⟩)).set ⟨R, 2, none⟩ HRN.out (.int .i64 n1)).set ⟨R, 3, none⟩ HRN.out (.slice A5 m5 c5)).mono (T := fun b => w.heap.size ≤ b) (fun b hb _ => by have := HRO.out; omega))
                have HPR := Lib.hid (show ((k1, nm1, n1, ks1) : Tm) = _ from ((HRES.out.trans (show _ = ((k1, nm1, n1, ks1) : Tm) by have h3 := HH3.out; unfold shN; rw [if_neg (by omega), if_neg (fun q => h3 q.2), if_pos ⟨rfl, .inr HSM.out⟩]; rfl)).symm))
                clear HRES
                go_wp2
                have r0 := HE.out.cell 0
                have r1 := HE.out.cell 1
                have r2 := HE.out.cell 2
                have r3 := HE.out.cell 3
                refine bodyPost_ret (v := .agg #[.int .i64 k1, .string ⟨(nm1 : List UInt8).toArray⟩, .int .i64 n1, .slice A5 m5 c5]) ?_ rfl ⟨(k1, nm1, n1, ks1), _, rfl, ⟨.slice A5 m5 c5, rfl, HEK.out⟩, HPR.out, HEB.out⟩
                simp at r0 r1 r2 r3
                simp [results, Tryz.results51, go_sem, r0, r1, r2, r3]
              | false =>
                have HZn := Lib.hid (HZ.out.below HV4.out)
                have HYn := Lib.hid (HY.out.below HV4.out)
                have y0 := HYn.out.cell 0
                have y1 := HYn.out.cell 1
                have y2 := HYn.out.cell 2
                have y3 := HYn.out.cell 3
                have z0 := HZn.out.cell 0
                have z1 := HZn.out.cell 1
                have z2 := HZn.out.cell 2
                have z3 := HZn.out.cell 3
                have g0 := HZn.out.free 0
                have g1 := HZn.out.free 1
                have g2 := HZn.out.free 2
                have g3 := HZn.out.free 3
                have HE := Lib.hid ((((HZn.out.set 0 (.int .i64 4)).set 1 (.string ⟨([] : List UInt8).toArray⟩)).set 2 (.int .i64 0)).set 3 (.slice (some ⟨b, off, none⟩) 2 c4))
                have HEB := Lib.hid (((((HB.out.trans (HV4.out.mono HB.out.size)).setCell (p := ⟨R, 0, none⟩) HRL.out (.int .i64 4)).setCell (p := ⟨R, 1, none⟩) HRL.out (.string ⟨([] : List UInt8).toArray⟩)).setCell (p := ⟨R, 2, none⟩) HRL.out (.int .i64 0)).setCell (p := ⟨R, 3, none⟩) HRL.out (.slice (some ⟨b, off, none⟩) 2 c4))
                have HEK := Lib.hid ((((((HKV.out.below HV4.out).set ⟨R, 0, none⟩ HRN.out (.int .i64 4)).set ⟨R, 1, none⟩ HRN.out (.string ⟨([] : List UInt8).toArray⟩)).set ⟨R, 2, none⟩ HRN.out (.int .i64 0)).set ⟨R, 3, none⟩ HRN.out (.slice (some ⟨b, off, none⟩) 2 c4)).mono (T := fun b => w.heap.size ≤ b) (fun b hb _ => by have := HRO.out; omega))
                have HPR := Lib.hid (show ((4, [], 0, .cons k1 nm1 n1 ks1 (.cons k2 nm2 n2 ks2 .nil)) : Tm) = _ from ((HRES.out.trans (show _ = ((4, [], 0, .cons k1 nm1 n1 ks1 (.cons k2 nm2 n2 ks2 .nil)) : Tm) by have h3 := HH3.out; have h4 := HH4.out; have h5 := HSM.out; unfold shN; rw [if_neg (by omega), if_neg (fun q => h3 q.2), if_neg (fun q => q.2.elim h4 (fun e => absurd (h5.symm.trans e) (by decide)))]; rfl)).symm))
                clear HRES
                go_wp2
                have r0 := HE.out.cell 0
                have r1 := HE.out.cell 1
                have r2 := HE.out.cell 2
                have r3 := HE.out.cell 3
                refine bodyPost_ret (v := .agg #[.int .i64 4, .string ⟨([] : List UInt8).toArray⟩, .int .i64 0, .slice (some ⟨b, off, none⟩) 2 c4]) ?_ rfl ⟨(4, [], 0, .cons k1 nm1 n1 ks1 (.cons k2 nm2 n2 ks2 .nil)), _, rfl, ⟨.slice (some ⟨b, off, none⟩) 2 c4, rfl, HEK.out⟩, HPR.out, HEB.out⟩
                simp at r0 r1 r2 r3
                simp [results, Tryz.results51, go_sem, r0, r1, r2, r3]
        · skip
          obtain ⟨k1, nm1, n1, ks1, k2, nm2, n2, ks2, rfl⟩ := Fo.len_two HSL.out
          obtain ⟨b, off, u1, rfl, hk1, c0, c1, c2, c3⟩ := HKA.out.cells0 (by rw [HSL.out]; omega)
          obtain ⟨A5, m5, c5, rfl, hm5, -, -, hka5⟩ := hk1.open'
          have HK1 := Lib.hid hk1
          have HA5 := Lib.hid hka5
          have HM5 := Lib.hid hm5
          have HBL := Lib.hid (show b < wr.heap.size from World.block_lt_of_cell? wr ⟨b, off, none⟩ c0)
          have HC0 := Lib.hid c0
          have HC1 := Lib.hid c1
          have HC2 := Lib.hid c2
          have HC3 := Lib.hid c3
          clear c0 c1 c2 c3 hk1 hka5 hm5
          obtain ⟨u2, hk2, d0, d1, d2, d3⟩ := KidsAt.get (i := 1) HKA.out (by rw [HSL.out]; omega)
          obtain ⟨A6, m6, c6, rfl, -⟩ := hk2.open'
          rw [Nat.one_mul] at d0 d1 d2 d3
          have HK2 := Lib.hid hk2
          have HD0 := Lib.hid d0
          have HD1 := Lib.hid d1
          have HD2 := Lib.hid d2
          have HD3 := Lib.hid d3
          clear d0 d1 d2 d3 hk2
          dsimp only [Fo.get] at HK1 HC0 HC1 HC2 HC3 HA5 HM5 HK2 HD0 HD1 HD2 HD3
          by_cases h3 : k1 = 1
          · subst h3
            have p0 := (HW0.out.cell (p := ⟨b, off, none⟩) HBL.out).trans HC0.out
            have p1 := (HW0.out.cell (p := ⟨b, off + 1, none⟩) HBL.out).trans HC1.out
            have p2 := (HW0.out.cell (p := ⟨b, off + 2, none⟩) HBL.out).trans HC2.out
            have p3 := (HW0.out.cell (p := ⟨b, off + 3, none⟩) HBL.out).trans HC3.out
            have cy := yes_b true (k := 1) rfl ⟨(nm1 : List UInt8).toArray⟩ n1 A5 m5 c5 wr
            go_wp2_with fail
            refine cy.mono ?_
            rintro e V1 ⟨rfl, hb⟩
            have HV1 := Lib.hid (HW0.out.trans (hb.mono HW0.out.size))
            clear cy hb
            clear p0 p1 p2 p3
            have HZn := Lib.hid (HZ.out.below HV1.out)
            have HYn := Lib.hid (HY.out.below HV1.out)
            have y0 := HYn.out.cell 0
            have y1 := HYn.out.cell 1
            have y2 := HYn.out.cell 2
            have y3 := HYn.out.cell 3
            have z0 := HZn.out.cell 0
            have z1 := HZn.out.cell 1
            have z2 := HZn.out.cell 2
            have z3 := HZn.out.cell 3
            have g0 := HZn.out.free 0
            have g1 := HZn.out.free 1
            have g2 := HZn.out.free 2
            have g3 := HZn.out.free 3
            have HE := Lib.hid ((((HZn.out.set 0 (.int .i64 1)).set 1 (.string ⟨([] : List UInt8).toArray⟩)).set 2 (.int .i64 0)).set 3 (.slice none 0 0))
            have HEB := Lib.hid (((((HB.out.trans (HV1.out.mono HB.out.size)).setCell (p := ⟨R, 0, none⟩) HRL.out (.int .i64 1)).setCell (p := ⟨R, 1, none⟩) HRL.out (.string ⟨([] : List UInt8).toArray⟩)).setCell (p := ⟨R, 2, none⟩) HRL.out (.int .i64 0)).setCell (p := ⟨R, 3, none⟩) HRL.out (.slice none 0 0))
            have HEK := Lib.hid ((((((KidsV.nil (fun b => O + 1 ≤ b) V1).set ⟨R, 0, none⟩ HRN.out (.int .i64 1)).set ⟨R, 1, none⟩ HRN.out (.string ⟨([] : List UInt8).toArray⟩)).set ⟨R, 2, none⟩ HRN.out (.int .i64 0)).set ⟨R, 3, none⟩ HRN.out (.slice none 0 0)).mono (T := fun b => w.heap.size ≤ b) (fun b hb _ => by have := HRO.out; omega))
            have HPR := Lib.hid (show ((1, [], 0, .nil) : Tm) = _ from ((HRES.out.trans (show _ = ((1, [], 0, .nil) : Tm) by unfold shN; rw [if_neg (by omega), if_neg (by omega), if_neg (by omega), if_pos ⟨rfl, .inl rfl⟩]; rfl)).symm))
            clear HRES
            go_wp2
            have r0 := HE.out.cell 0
            have r1 := HE.out.cell 1
            have r2 := HE.out.cell 2
            have r3 := HE.out.cell 3
            refine bodyPost_ret (v := .agg #[.int .i64 1, .string ⟨([] : List UInt8).toArray⟩, .int .i64 0, .slice none 0 0]) ?_ rfl ⟨(1, [], 0, .nil), _, rfl, ⟨.slice none 0 0, rfl, HEK.out⟩, HPR.out, HEB.out⟩
            simp at r0 r1 r2 r3
            simp [results, Tryz.results51, go_sem, r0, r1, r2, r3]
          · have HH3 := Lib.hid h3
            have p0 := (HW0.out.cell (p := ⟨b, off, none⟩) HBL.out).trans HC0.out
            have p1 := (HW0.out.cell (p := ⟨b, off + 1, none⟩) HBL.out).trans HC1.out
            have p2 := (HW0.out.cell (p := ⟨b, off + 2, none⟩) HBL.out).trans HC2.out
            have p3 := (HW0.out.cell (p := ⟨b, off + 3, none⟩) HBL.out).trans HC3.out
            have cy := yes_b false (k := k1) (decide_eq_false h3) ⟨(nm1 : List UInt8).toArray⟩ n1 A5 m5 c5 wr
            go_wp2_with fail
            refine cy.mono ?_
            rintro e V1 ⟨rfl, hb⟩
            have HV1 := Lib.hid (HW0.out.trans (hb.mono HW0.out.size))
            clear cy hb
            clear p0 p1 p2 p3
            clear h3
            by_cases h4 : k2 = 1
            · subst h4
              have q0 := (HV1.out.cell (p := ⟨b, off + 4, none⟩) HBL.out).trans HD0.out
              have q1 := (HV1.out.cell (p := ⟨b, off + 4 + 1, none⟩) HBL.out).trans HD1.out
              have q2 := (HV1.out.cell (p := ⟨b, off + 4 + 2, none⟩) HBL.out).trans HD2.out
              have q3 := (HV1.out.cell (p := ⟨b, off + 4 + 3, none⟩) HBL.out).trans HD3.out
              have cy := yes_b true (k := 1) rfl ⟨(nm2 : List UInt8).toArray⟩ n2 A6 m6 c6 V1
              go_wp2_with fail
              refine cy.mono ?_
              rintro e V2 ⟨rfl, hb⟩
              have HV2 := Lib.hid (HV1.out.trans (hb.mono HV1.out.size))
              clear cy hb
              clear q0 q1 q2 q3
              have HZn := Lib.hid (HZ.out.below HV2.out)
              have HYn := Lib.hid (HY.out.below HV2.out)
              have y0 := HYn.out.cell 0
              have y1 := HYn.out.cell 1
              have y2 := HYn.out.cell 2
              have y3 := HYn.out.cell 3
              have z0 := HZn.out.cell 0
              have z1 := HZn.out.cell 1
              have z2 := HZn.out.cell 2
              have z3 := HZn.out.cell 3
              have g0 := HZn.out.free 0
              have g1 := HZn.out.free 1
              have g2 := HZn.out.free 2
              have g3 := HZn.out.free 3
              have HE := Lib.hid ((((HZn.out.set 0 (.int .i64 1)).set 1 (.string ⟨([] : List UInt8).toArray⟩)).set 2 (.int .i64 0)).set 3 (.slice none 0 0))
              have HEB := Lib.hid (((((HB.out.trans (HV2.out.mono HB.out.size)).setCell (p := ⟨R, 0, none⟩) HRL.out (.int .i64 1)).setCell (p := ⟨R, 1, none⟩) HRL.out (.string ⟨([] : List UInt8).toArray⟩)).setCell (p := ⟨R, 2, none⟩) HRL.out (.int .i64 0)).setCell (p := ⟨R, 3, none⟩) HRL.out (.slice none 0 0))
              have HEK := Lib.hid ((((((KidsV.nil (fun b => O + 1 ≤ b) V2).set ⟨R, 0, none⟩ HRN.out (.int .i64 1)).set ⟨R, 1, none⟩ HRN.out (.string ⟨([] : List UInt8).toArray⟩)).set ⟨R, 2, none⟩ HRN.out (.int .i64 0)).set ⟨R, 3, none⟩ HRN.out (.slice none 0 0)).mono (T := fun b => w.heap.size ≤ b) (fun b hb _ => by have := HRO.out; omega))
              have HPR := Lib.hid (show ((1, [], 0, .nil) : Tm) = _ from ((HRES.out.trans (show _ = ((1, [], 0, .nil) : Tm) by unfold shN; rw [if_neg (by omega), if_neg (by omega), if_neg (by omega), if_pos ⟨rfl, .inr rfl⟩]; rfl)).symm))
              clear HRES
              go_wp2
              have r0 := HE.out.cell 0
              have r1 := HE.out.cell 1
              have r2 := HE.out.cell 2
              have r3 := HE.out.cell 3
              refine bodyPost_ret (v := .agg #[.int .i64 1, .string ⟨([] : List UInt8).toArray⟩, .int .i64 0, .slice none 0 0]) ?_ rfl ⟨(1, [], 0, .nil), _, rfl, ⟨.slice none 0 0, rfl, HEK.out⟩, HPR.out, HEB.out⟩
              simp at r0 r1 r2 r3
              simp [results, Tryz.results51, go_sem, r0, r1, r2, r3]
            · have HH4 := Lib.hid h4
              have hsh := HSH.out
              simp only [Fo.shp, Bool.and_eq_true] at hsh
              have HT1 := Lib.hid (show (Tm.fo (k1, nm1, n1, ks1)).shp = true by simp [Tm.fo, Fo.shp, hsh.1.1, hsh.1.2])
              have HT2 := Lib.hid (show (Tm.fo (k2, nm2, n2, ks2)).shp = true by simp [Tm.fo, Fo.shp, hsh.2.1.1, hsh.2.1.2])
              have HN1 := Lib.hid (show (Tm.fo (k1, nm1, n1, ks1)).cnt ≤ 64 by have h := HSC.out; simp only [Fo.cnt] at h; simp only [Tm.fo, Fo.cnt]; omega)
              have HN2 := Lib.hid (show (Tm.fo (k2, nm2, n2, ks2)).cnt ≤ 64 by have h := HSC.out; simp only [Fo.cnt] at h; simp only [Tm.fo, Fo.cnt]; omega)
              have HEQ := Lib.hid (text_same (t := (k1, nm1, n1, ks1)) (u := (k2, nm2, n2, ks2)) (by simp [Tm.ok, HT1.out, HN1.out]) (by simp [Tm.ok, HT2.out, HN2.out]))
              clear hsh
              have q0 := (HV1.out.cell (p := ⟨b, off + 4, none⟩) HBL.out).trans HD0.out
              have q1 := (HV1.out.cell (p := ⟨b, off + 4 + 1, none⟩) HBL.out).trans HD1.out
              have q2 := (HV1.out.cell (p := ⟨b, off + 4 + 2, none⟩) HBL.out).trans HD2.out
              have q3 := (HV1.out.cell (p := ⟨b, off + 4 + 3, none⟩) HBL.out).trans HD3.out
              have cy := yes_b false (k := k2) (decide_eq_false h4) ⟨(nm2 : List UInt8).toArray⟩ n2 A6 m6 c6 V1
              go_wp2_with fail
              refine cy.mono ?_
              rintro e V2 ⟨rfl, hb⟩
              have HV2 := Lib.hid (HV1.out.trans (hb.mono HV1.out.size))
              clear cy hb
              clear q0 q1 q2 q3
              clear h4
              have HF0 := Lib.hid (And.intro ((HV2.out.cell (p := ⟨b, off, none⟩) HBL.out).trans HC0.out) (Nat.lt_of_lt_of_le HBL.out HV2.out.size))
              have HF1 := Lib.hid (And.intro ((HV2.out.cell (p := ⟨b, off + 1, none⟩) HBL.out).trans HC1.out) (Nat.lt_of_lt_of_le HBL.out HV2.out.size))
              have HF2 := Lib.hid (And.intro ((HV2.out.cell (p := ⟨b, off + 2, none⟩) HBL.out).trans HC2.out) (Nat.lt_of_lt_of_le HBL.out HV2.out.size))
              have HF3 := Lib.hid (And.intro ((HV2.out.cell (p := ⟨b, off + 3, none⟩) HBL.out).trans HC3.out) (Nat.lt_of_lt_of_le HBL.out HV2.out.size))
              have HF4 := Lib.hid (And.intro ((HV2.out.cell (p := ⟨b, off + 4, none⟩) HBL.out).trans HD0.out) (Nat.lt_of_lt_of_le HBL.out HV2.out.size))
              have HF5 := Lib.hid (And.intro ((HV2.out.cell (p := ⟨b, off + 4 + 1, none⟩) HBL.out).trans HD1.out) (Nat.lt_of_lt_of_le HBL.out HV2.out.size))
              have HF6 := Lib.hid (And.intro ((HV2.out.cell (p := ⟨b, off + 4 + 2, none⟩) HBL.out).trans HD2.out) (Nat.lt_of_lt_of_le HBL.out HV2.out.size))
              have HF7 := Lib.hid (And.intro ((HV2.out.cell (p := ⟨b, off + 4 + 3, none⟩) HBL.out).trans HD3.out) (Nat.lt_of_lt_of_le HBL.out HV2.out.size))
              have HBV := Lib.hid (HB.out.trans (HV2.out.mono HB.out.size))
              have HX1 := Lib.hid (show ∀ W, Below w.heap.size w W → Below wr.heap.size wr W → _ from fun W h h2 => HTX.out (k1, nm1, n1, ks1) (fun b => O + 1 ≤ b) _ W h ⟨_, rfl, HK1.out.below h2⟩ HT1.out HN1.out)
              have HX2 := Lib.hid (show ∀ W, Below w.heap.size w W → Below wr.heap.size wr W → _ from fun W h h2 => HTX.out (k2, nm2, n2, ks2) (fun b => O + 1 ≤ b) _ W h ⟨_, rfl, HK2.out.below h2⟩ HT2.out HN2.out)
              obtain ⟨sm, hsm⟩ : ∃ sm, Tm.same (k1, nm1, n1, ks1) (k2, nm2, n2, ks2) = sm := ⟨_, rfl⟩
              have HSM := Lib.hid hsm
              have heq := HEQ.out
              rw [hsm] at heq
              obtain ⟨tx1, htx1⟩ : ∃ tx1, Tm.tx (k1, nm1, n1, ks1) = tx1 := ⟨_, rfl⟩
              obtain ⟨tx2, htx2⟩ : ∃ tx2, Tm.tx (k2, nm2, n2, ks2) = tx2 := ⟨_, rfl⟩
              rw [htx1, htx2] at heq
              have ct1 := HX1.out
              have ct2 := HX2.out
              rw [htx1] at ct1
              rw [htx2] at ct2
              have HCT1 := Lib.hid ct1
              have HCT2 := Lib.hid ct2
              have hbe : ((⟨tx1.toArray⟩ : ByteArray) == ⟨tx2.toArray⟩) = sm := (ba_eq tx1 tx2).trans heq
              have hbe2 : (tx1 == tx2) = sm := by
                rw [← heq]
                by_cases h : tx1 = tx2
                · subst h; simp
                · simp [h]
              clear htx1 htx2 heq hsm ct1 ct2
              go_upto_region 22 with fail
              refine Lex.wp_region_lex (fun w' => Below V2.heap.size V2 w') (fun _ => true)
                [(0, true), (1, true), (2, true), (4, true), (5, true), (6, true), (3, false), (7, false), (8, true), (9, false)]
                (by kernel_rfl) (by kernel_rfl) (by kernel_rfl) (by kernel_rfl) ⟨rfl, rfl, rfl, Nat.le_refl _, fun _ _ => rfl⟩ ?_
              have hb0 : Below V2.heap.size V2 V2.drew := ⟨rfl, rfl, rfl, Nat.le_refl _, fun _ _ => rfl⟩
              have hw0 : Below w.heap.size w V2.drew := ⟨HBV.out.os, HBV.out.tape, HBV.out.output, HBV.out.size, HBV.out.block⟩
              generalize hV0 : V2.drew = V0 at *
              clear hV0
              iterate 6 (refine Lex.lex_take (v := ?_) rfl rfl (by rfl) (fun _ hS => ?_) ?_; rotate_left 1; (focus (have g0 := (hS.cell HF0.out.2).trans HF0.out.1; have g1 := (hS.cell HF1.out.2).trans HF1.out.1; have g2 := (hS.cell HF2.out.2).trans HF2.out.1; have g3 := (hS.cell HF3.out.2).trans HF3.out.1; have g4 := (hS.cell HF4.out.2).trans HF4.out.1; have g5 := (hS.cell HF5.out.2).trans HF5.out.1; have g6 := (hS.cell HF6.out.2).trans HF6.out.1; have g7 := (hS.cell HF7.out.2).trans HF7.out.1; clear hS; go_simp; with_reducible rfl)); simp only [List.setIfInBounds_toArray, List.set_cons_zero, List.set_cons_succ])
              refine Lex.lex_do rfl ?_
              have cc := HCT1.out V0 hw0 (HV2.out.trans (hb0.mono HV2.out.size))
              go_wp2_with fail
              refine cc.mono ?_
              rintro e V1 ⟨rfl, hn1⟩
              have hb1 := hb0.trans (hn1.mono hb0.size)
              have hw1 := hw0.trans (hn1.mono hw0.size)
              clear cc hb0 hw0
              clear hn1
              go_wp2_with fail
              refine Lex.lexQ_normal (fun _ => hb1) ?_
              refine Lex.lex_do rfl ?_
              have cc := HCT2.out V1 hw1 (HV2.out.trans (hb1.mono HV2.out.size))
              go_wp2_with fail
              refine cc.mono ?_
              rintro e V2 ⟨rfl, hn2⟩
              have hb2 := hb1.trans (hn2.mono hb1.size)
              have hw2 := hw1.trans (hn2.mono hw1.size)
              clear cc hb1 hw1
              clear hn2
              go_wp2_with fail
              refine Lex.lexQ_normal (fun _ => hb2) ?_
              refine Lex.lex_take (v := ?_) rfl rfl (by rfl) (fun _ hS => ?_) ?_; rotate_left 1; (focus (have g0 := (hS.cell HF0.out.2).trans HF0.out.1; have g1 := (hS.cell HF1.out.2).trans HF1.out.1; have g2 := (hS.cell HF2.out.2).trans HF2.out.1; have g3 := (hS.cell HF3.out.2).trans HF3.out.1; have g4 := (hS.cell HF4.out.2).trans HF4.out.1; have g5 := (hS.cell HF5.out.2).trans HF5.out.1; have g6 := (hS.cell HF6.out.2).trans HF6.out.1; have g7 := (hS.cell HF7.out.2).trans HF7.out.1; clear hS; go_simp; with_reducible rfl)); simp only [List.setIfInBounds_toArray, List.set_cons_zero, List.set_cons_succ]
              refine Lex.lex_do rfl ?_
              go_wp2_with fail
              refine Lex.lexQ_normal (fun _ => hb2) ?_
              refine Lex.lex_nil ?_
              have HV4 := Lib.hid (HV2.out.trans (hb2.mono HV2.out.size))
              clear hw2 hb2 hbe
              cases sm with
              | true =>
                have p0 := (HV4.out.cell (p := ⟨b, off, none⟩) HBL.out).trans HC0.out
                have p1 := (HV4.out.cell (p := ⟨b, off + 1, none⟩) HBL.out).trans HC1.out
                have p2 := (HV4.out.cell (p := ⟨b, off + 2, none⟩) HBL.out).trans HC2.out
                have p3 := (HV4.out.cell (p := ⟨b, off + 3, none⟩) HBL.out).trans HC3.out
                have HZn := Lib.hid (HZ.out.below HV4.out)
                have HYn := Lib.hid (HY.out.below HV4.out)
                have y0 := HYn.out.cell 0
                have y1 := HYn.out.cell 1
                have y2 := HYn.out.cell 2
                have y3 := HYn.out.cell 3
                have z0 := HZn.out.cell 0
                have z1 := HZn.out.cell 1
                have z2 := HZn.out.cell 2
                have z3 := HZn.out.cell 3
                have g0 := HZn.out.free 0
                have g1 := HZn.out.free 1
                have g2 := HZn.out.free 2
                have g3 := HZn.out.free 3
                have HE := Lib.hid ((((HZn.out.set 0 (.int .i64 k1)).set 1 (.string ⟨(nm1 : List UInt8).toArray⟩)).set 2 (.int .i64 n1)).set 3 (.slice A5 m5 c5))
                have HEB := Lib.hid (((((HB.out.trans (HV4.out.mono HB.out.size)).setCell (p := ⟨R, 0, none⟩) HRL.out (.int .i64 k1)).setCell (p := ⟨R, 1, none⟩) HRL.out (.string ⟨(nm1 : List UInt8).toArray⟩)).setCell (p := ⟨R, 2, none⟩) HRL.out (.int .i64 n1)).setCell (p := ⟨R, 3, none⟩) HRL.out (.slice A5 m5 c5))
                have HEK := Lib.hid ((((((HK1.out.below HV4.out).set ⟨R, 0, none⟩ HRN.out (.int .i64 k1)).set ⟨R, 1, none⟩ HRN.out (.string ⟨(nm1 : List UInt8).toArray⟩)).set ⟨R, 2, none⟩ HRN.out (.int .i64 n1)).set ⟨R, 3, none⟩ HRN.out (.slice A5 m5 c5)).mono (T := fun b => w.heap.size ≤ b) (fun b hb _ => by have := HRO.out; omega))
                have HPR := Lib.hid (show ((k1, nm1, n1, ks1) : Tm) = _ from ((HRES.out.trans (show _ = ((k1, nm1, n1, ks1) : Tm) by have h3 := HH3.out; have h4 := HH4.out; unfold shN; rw [if_neg (by omega), if_neg (by omega), if_neg (by omega), if_neg (fun q => q.2.elim h3 h4), if_pos ⟨rfl, HSM.out⟩]; rfl)).symm))
                clear HRES
                go_wp2
                have r0 := HE.out.cell 0
                have r1 := HE.out.cell 1
                have r2 := HE.out.cell 2
                have r3 := HE.out.cell 3
                refine bodyPost_ret (v := .agg #[.int .i64 k1, .string ⟨(nm1 : List UInt8).toArray⟩, .int .i64 n1, .slice A5 m5 c5]) ?_ rfl ⟨(k1, nm1, n1, ks1), _, rfl, ⟨.slice A5 m5 c5, rfl, HEK.out⟩, HPR.out, HEB.out⟩
                simp at r0 r1 r2 r3
                simp [results, Tryz.results51, go_sem, r0, r1, r2, r3]
              | false =>
                have HZn := Lib.hid (HZ.out.below HV4.out)
                have HYn := Lib.hid (HY.out.below HV4.out)
                have y0 := HYn.out.cell 0
                have y1 := HYn.out.cell 1
                have y2 := HYn.out.cell 2
                have y3 := HYn.out.cell 3
                have z0 := HZn.out.cell 0
                have z1 := HZn.out.cell 1
                have z2 := HZn.out.cell 2
                have z3 := HZn.out.cell 3
                have g0 := HZn.out.free 0
                have g1 := HZn.out.free 1
                have g2 := HZn.out.free 2
                have g3 := HZn.out.free 3
                have HE := Lib.hid ((((HZn.out.set 0 (.int .i64 5)).set 1 (.string ⟨([] : List UInt8).toArray⟩)).set 2 (.int .i64 0)).set 3 (.slice (some ⟨b, off, none⟩) 2 c4))
                have HEB := Lib.hid (((((HB.out.trans (HV4.out.mono HB.out.size)).setCell (p := ⟨R, 0, none⟩) HRL.out (.int .i64 5)).setCell (p := ⟨R, 1, none⟩) HRL.out (.string ⟨([] : List UInt8).toArray⟩)).setCell (p := ⟨R, 2, none⟩) HRL.out (.int .i64 0)).setCell (p := ⟨R, 3, none⟩) HRL.out (.slice (some ⟨b, off, none⟩) 2 c4))
                have HEK := Lib.hid ((((((HKV.out.below HV4.out).set ⟨R, 0, none⟩ HRN.out (.int .i64 5)).set ⟨R, 1, none⟩ HRN.out (.string ⟨([] : List UInt8).toArray⟩)).set ⟨R, 2, none⟩ HRN.out (.int .i64 0)).set ⟨R, 3, none⟩ HRN.out (.slice (some ⟨b, off, none⟩) 2 c4)).mono (T := fun b => w.heap.size ≤ b) (fun b hb _ => by have := HRO.out; omega))
                have HPR := Lib.hid (show ((5, [], 0, .cons k1 nm1 n1 ks1 (.cons k2 nm2 n2 ks2 .nil)) : Tm) = _ from ((HRES.out.trans (show _ = ((5, [], 0, .cons k1 nm1 n1 ks1 (.cons k2 nm2 n2 ks2 .nil)) : Tm) by have h3 := HH3.out; have h4 := HH4.out; have h5 := HSM.out; unfold shN; rw [if_neg (by omega), if_neg (by omega), if_neg (by omega), if_neg (fun q => q.2.elim h3 h4), if_neg (fun q => absurd (h5.symm.trans q.2) (by decide))]; rfl)).symm))
                clear HRES
                go_wp2
                have r0 := HE.out.cell 0
                have r1 := HE.out.cell 1
                have r2 := HE.out.cell 2
                have r3 := HE.out.cell 3
                refine bodyPost_ret (v := .agg #[.int .i64 5, .string ⟨([] : List UInt8).toArray⟩, .int .i64 0, .slice (some ⟨b, off, none⟩) 2 c4]) ?_ rfl ⟨(5, [], 0, .cons k1 nm1 n1 ks1 (.cons k2 nm2 n2 ks2 .nil)), _, rfl, ⟨.slice (some ⟨b, off, none⟩) 2 c4, rfl, HEK.out⟩, HPR.out, HEB.out⟩
                simp at r0 r1 r2 r3
                simp [results, Tryz.results51, go_sem, r0, r1, r2, r3]
        · skip
          obtain ⟨k1, nm1, n1, ks1, k2, nm2, n2, ks2, rfl⟩ := Fo.len_two HSL.out
          obtain ⟨b, off, u1, rfl, hk1, c0, c1, c2, c3⟩ := HKA.out.cells0 (by rw [HSL.out]; omega)
          obtain ⟨A5, m5, c5, rfl, hm5, -, -, hka5⟩ := hk1.open'
          have HK1 := Lib.hid hk1
          have HA5 := Lib.hid hka5
          have HM5 := Lib.hid hm5
          have HBL := Lib.hid (show b < wr.heap.size from World.block_lt_of_cell? wr ⟨b, off, none⟩ c0)
          have HC0 := Lib.hid c0
          have HC1 := Lib.hid c1
          have HC2 := Lib.hid c2
          have HC3 := Lib.hid c3
          clear c0 c1 c2 c3 hk1 hka5 hm5
          obtain ⟨u2, hk2, d0, d1, d2, d3⟩ := KidsAt.get (i := 1) HKA.out (by rw [HSL.out]; omega)
          obtain ⟨A6, m6, c6, rfl, -⟩ := hk2.open'
          rw [Nat.one_mul] at d0 d1 d2 d3
          have HK2 := Lib.hid hk2
          have HD0 := Lib.hid d0
          have HD1 := Lib.hid d1
          have HD2 := Lib.hid d2
          have HD3 := Lib.hid d3
          clear d0 d1 d2 d3 hk2
          dsimp only [Fo.get] at HK1 HC0 HC1 HC2 HC3 HA5 HM5 HK2 HD0 HD1 HD2 HD3
          by_cases h3 : k2 = 1
          · subst h3
            have q0 := (HW0.out.cell (p := ⟨b, off + 4, none⟩) HBL.out).trans HD0.out
            have q1 := (HW0.out.cell (p := ⟨b, off + 4 + 1, none⟩) HBL.out).trans HD1.out
            have q2 := (HW0.out.cell (p := ⟨b, off + 4 + 2, none⟩) HBL.out).trans HD2.out
            have q3 := (HW0.out.cell (p := ⟨b, off + 4 + 3, none⟩) HBL.out).trans HD3.out
            have cy := yes_b true (k := 1) rfl ⟨(nm2 : List UInt8).toArray⟩ n2 A6 m6 c6 wr
            go_wp2_with fail
            refine cy.mono ?_
            rintro e V1 ⟨rfl, hb⟩
            have HV1 := Lib.hid (HW0.out.trans (hb.mono HW0.out.size))
            clear cy hb
            clear q0 q1 q2 q3
            have q0 := (HV1.out.cell (p := ⟨b, off + 4, none⟩) HBL.out).trans HD0.out
            have q1 := (HV1.out.cell (p := ⟨b, off + 4 + 1, none⟩) HBL.out).trans HD1.out
            have q2 := (HV1.out.cell (p := ⟨b, off + 4 + 2, none⟩) HBL.out).trans HD2.out
            have q3 := (HV1.out.cell (p := ⟨b, off + 4 + 3, none⟩) HBL.out).trans HD3.out
            have HZn := Lib.hid (HZ.out.below HV1.out)
            have HYn := Lib.hid (HY.out.below HV1.out)
            have y0 := HYn.out.cell 0
            have y1 := HYn.out.cell 1
            have y2 := HYn.out.cell 2
            have y3 := HYn.out.cell 3
            have z0 := HZn.out.cell 0
            have z1 := HZn.out.cell 1
            have z2 := HZn.out.cell 2
            have z3 := HZn.out.cell 3
            have g0 := HZn.out.free 0
            have g1 := HZn.out.free 1
            have g2 := HZn.out.free 2
            have g3 := HZn.out.free 3
            have HE := Lib.hid ((((HZn.out.set 0 (.int .i64 1)).set 1 (.string ⟨(nm2 : List UInt8).toArray⟩)).set 2 (.int .i64 n2)).set 3 (.slice A6 m6 c6))
            have HEB := Lib.hid (((((HB.out.trans (HV1.out.mono HB.out.size)).setCell (p := ⟨R, 0, none⟩) HRL.out (.int .i64 1)).setCell (p := ⟨R, 1, none⟩) HRL.out (.string ⟨(nm2 : List UInt8).toArray⟩)).setCell (p := ⟨R, 2, none⟩) HRL.out (.int .i64 n2)).setCell (p := ⟨R, 3, none⟩) HRL.out (.slice A6 m6 c6))
            have HEK := Lib.hid ((((((HK2.out.below HV1.out).set ⟨R, 0, none⟩ HRN.out (.int .i64 1)).set ⟨R, 1, none⟩ HRN.out (.string ⟨(nm2 : List UInt8).toArray⟩)).set ⟨R, 2, none⟩ HRN.out (.int .i64 n2)).set ⟨R, 3, none⟩ HRN.out (.slice A6 m6 c6)).mono (T := fun b => w.heap.size ≤ b) (fun b hb _ => by have := HRO.out; omega))
            have HPR := Lib.hid (show ((1, nm2, n2, ks2) : Tm) = _ from ((HRES.out.trans (show _ = ((1, nm2, n2, ks2) : Tm) by unfold shN; rw [if_neg (by omega), if_neg (by omega), if_neg (by omega), if_neg (by omega), if_neg (by omega), if_neg (by omega), if_pos ⟨rfl, rfl⟩]; rfl)).symm))
            clear HRES
            go_wp2
            have r0 := HE.out.cell 0
            have r1 := HE.out.cell 1
            have r2 := HE.out.cell 2
            have r3 := HE.out.cell 3
            refine bodyPost_ret (v := .agg #[.int .i64 1, .string ⟨(nm2 : List UInt8).toArray⟩, .int .i64 n2, .slice A6 m6 c6]) ?_ rfl ⟨(1, nm2, n2, ks2), _, rfl, ⟨.slice A6 m6 c6, rfl, HEK.out⟩, HPR.out, HEB.out⟩
            simp at r0 r1 r2 r3
            simp [results, Tryz.results51, go_sem, r0, r1, r2, r3]
          · skip
            have q0 := (HW0.out.cell (p := ⟨b, off + 4, none⟩) HBL.out).trans HD0.out
            have q1 := (HW0.out.cell (p := ⟨b, off + 4 + 1, none⟩) HBL.out).trans HD1.out
            have q2 := (HW0.out.cell (p := ⟨b, off + 4 + 2, none⟩) HBL.out).trans HD2.out
            have q3 := (HW0.out.cell (p := ⟨b, off + 4 + 3, none⟩) HBL.out).trans HD3.out
            have cy := yes_b false (k := k2) (decide_eq_false h3) ⟨(nm2 : List UInt8).toArray⟩ n2 A6 m6 c6 wr
            go_wp2_with fail
            refine cy.mono ?_
            rintro e V1 ⟨rfl, hb⟩
            have HV1 := Lib.hid (HW0.out.trans (hb.mono HW0.out.size))
            clear cy hb
            clear q0 q1 q2 q3
            have HZn := Lib.hid (HZ.out.below HV1.out)
            have HYn := Lib.hid (HY.out.below HV1.out)
            have y0 := HYn.out.cell 0
            have y1 := HYn.out.cell 1
            have y2 := HYn.out.cell 2
            have y3 := HYn.out.cell 3
            have z0 := HZn.out.cell 0
            have z1 := HZn.out.cell 1
            have z2 := HZn.out.cell 2
            have z3 := HZn.out.cell 3
            have g0 := HZn.out.free 0
            have g1 := HZn.out.free 1
            have g2 := HZn.out.free 2
            have g3 := HZn.out.free 3
            have HE := Lib.hid ((((HZn.out.set 0 (.int .i64 9)).set 1 (.string ⟨([] : List UInt8).toArray⟩)).set 2 (.int .i64 0)).set 3 (.slice (some ⟨b, off, none⟩) 2 c4))
            have HEB := Lib.hid (((((HB.out.trans (HV1.out.mono HB.out.size)).setCell (p := ⟨R, 0, none⟩) HRL.out (.int .i64 9)).setCell (p := ⟨R, 1, none⟩) HRL.out (.string ⟨([] : List UInt8).toArray⟩)).setCell (p := ⟨R, 2, none⟩) HRL.out (.int .i64 0)).setCell (p := ⟨R, 3, none⟩) HRL.out (.slice (some ⟨b, off, none⟩) 2 c4))
            have HEK := Lib.hid ((((((HKV.out.below HV1.out).set ⟨R, 0, none⟩ HRN.out (.int .i64 9)).set ⟨R, 1, none⟩ HRN.out (.string ⟨([] : List UInt8).toArray⟩)).set ⟨R, 2, none⟩ HRN.out (.int .i64 0)).set ⟨R, 3, none⟩ HRN.out (.slice (some ⟨b, off, none⟩) 2 c4)).mono (T := fun b => w.heap.size ≤ b) (fun b hb _ => by have := HRO.out; omega))
            have HPR := Lib.hid (show ((9, [], 0, .cons k1 nm1 n1 ks1 (.cons k2 nm2 n2 ks2 .nil)) : Tm) = _ from ((HRES.out.trans (show _ = ((9, [], 0, .cons k1 nm1 n1 ks1 (.cons k2 nm2 n2 ks2 .nil)) : Tm) by unfold shN; rw [if_neg (by omega), if_neg (by omega), if_neg (by omega), if_neg (by omega), if_neg (by omega), if_neg (by omega), if_neg (fun q => h3 q.2)]; rfl)).symm))
            clear HRES
            go_wp2
            have r0 := HE.out.cell 0
            have r1 := HE.out.cell 1
            have r2 := HE.out.cell 2
            have r3 := HE.out.cell 3
            refine bodyPost_ret (v := .agg #[.int .i64 9, .string ⟨([] : List UInt8).toArray⟩, .int .i64 0, .slice (some ⟨b, off, none⟩) 2 c4]) ?_ rfl ⟨(9, [], 0, .cons k1 nm1 n1 ks1 (.cons k2 nm2 n2 ks2 .nil)), _, rfl, ⟨.slice (some ⟨b, off, none⟩) 2 c4, rfl, HEK.out⟩, HPR.out, HEB.out⟩
            simp at r0 r1 r2 r3
            simp [results, Tryz.results51, go_sem, r0, r1, r2, r3]
theorem short_any : ∀ N, ShortOk N
  | 0 => fun _ _ _ _ _ h => absurd h (Nat.not_lt_zero _)
  | N + 1 => short_step N (short_any N)
end Go.Proofs.YtobpacebpiabcaaGreatDoor
