/- TermsTexts: what the law computes (printed by expand.py). -/
import Derived.Test.YtobpacebpiabcaaGreatDoorGk
import Derived.Test.YtobpacebpiabcaaGreatDoorGi
import Derived.Test.YtobpacebpiabcaaGreatDoorPkFa
import Derived.Test.YtobpacebpiabcaaGreatDoorPkBs
import Derived.Test.YtobpacebpiabcaaGreatDoorCk
namespace Go.Proofs.YtobpacebpiabcaaGreatDoor
open Go.RowKit Go.Lib

theorem RetParse.fine {l : List UInt8} {w w' : World} {e : Ending} (h : RetParse l w e w') {t : Tm} (hp : parseT l = some t) (hl : l.length ≤ 2000) : ∃ v, e = .returned (.tuple #[v, .int .i64 0]) ∧ TmV (fun b => w.heap.size ≤ b) w' v t ∧ Below w.heap.size w w' := by
  rcases h with ⟨t', v, h1, _, h3, h4, h5⟩ | ⟨h1 | h1, _⟩
  · rw [hp] at h1
    injection h1 with h1
    subst h1
    exact ⟨v, h3, h4, h5⟩
  · rw [hp] at h1; cases h1
  · omega
set_option maxRecDepth 100000 in
set_option maxHeartbeats 12800000 in
theorem texts_any {B0 N0 : Nat} {l : List Nd} {u : Value} {w : World} (hu : NodesV N0 w u l) (hN : N0 ≤ w.heap.size) (hf : NdFit l) (hL : LibOk B0 w) : Calls Tryz.prog 10 #[u] w (RetW (.bool true) w) := by
  have cb := bigbuild_any hu hN hf
  have HL := Lib.hid (show ∀ W, Below w.heap.size w W → Calls Tryz.prog 21 #[] W (RetW (.bool true) W) from fun W hb => lives_any B0 W (hL.below hb))
  have HLB := Lib.hid hL
  obtain ⟨A1, m1, c1, rfl⟩ : ∃ A m c, u = .slice A m c := by obtain ⟨A, c, h, _⟩ := hu; exact ⟨A, _, c, h⟩
  clear hu hN hf hL
  go_enter Tryz.func10, Tryz.ntmps10
  go_wp2_with fail
  refine cb.mono ?_
  rintro e W4 ⟨t, v4, rfl, htm, hsm, hb4⟩
  have HB4 := Lib.hid hb4
  have HT := Lib.hid htm
  have HSM := Lib.hid hsm
  obtain ⟨u4, rfl, hk4⟩ := htm
  obtain ⟨A3, m3, c3, rfl, -⟩ := hk4.open'
  clear cb hsm hb4 hk4
  go_upto_region 2 with fail
  obtain ⟨W6, hW6⟩ : ∃ W6, W6 = W4.alloc (.cells #[.int .i64 t.1, .string ⟨t.2.1.toArray⟩, .int .i64 t.2.2.1, .slice A3 m3 c3] 26) := ⟨_, rfl⟩
  have hb6 : Below W4.heap.size W4 W6 := by rw [hW6]; exact (Below.refl _ _).alloc (Nat.le_refl _) _
  have HX := Lib.hid (show Blk W6 W4.heap.size #[.int .i64 t.1, .string ⟨t.2.1.toArray⟩, .int .i64 t.2.2.1, .slice A3 m3 c3] 26 by rw [hW6]; exact Blk.new _ _ _)
  rw [← hW6]
  clear hW6
  have HW6 := Lib.hid (HB4.out.trans (hb6.mono HB4.out.size))
  have HT6 := Lib.hid (HT.out.below hb6)
  clear hb6 HT HB4
  obtain ⟨bx, hbx⟩ : ∃ bx, W4.heap.size = bx := ⟨_, rfl⟩
  rw [hbx] at HX ⊢
  clear hbx
  have cv : ∀ W, Below W6.heap.size W6 W → Calls Tryz.prog 20 #[.agg #[.int .i64 t.1, .string ⟨t.2.1.toArray⟩, .int .i64 t.2.2.1, .slice A3 m3 c3]] W (RetW (.bool t.ok) W) := fun W hb => refvalid_any (HT6.out.below hb) HSM.out.1 (by have := HSM.out.2; omega)
  cases hok : t.ok with
  | false =>
    rw [hok] at cv
    have HV := Lib.hid cv
    have ct := termstext_bad HT6.out HSM.out.1 hok
    have HM := Lib.hid (show ∀ W, Below W6.heap.size W6 W → _ from fun W hb => bigmarks_bad (HT6.out.below hb) HSM.out.1 hok)
    have HS := Lib.hid (show ∀ W, Below W6.heap.size W6 W → _ from fun W hb => bigshort_bad (HT6.out.below hb) HSM.out.1 hok)
    clear cv HT6 HSM hok
    generalize t.1 = kk at *
    generalize t.2.1 = knm at *
    generalize t.2.2.1 = kn at *
    have k0 := HX.out.cell 0
    have k1 := HX.out.cell 1
    have k2 := HX.out.cell 2
    have k3 := HX.out.cell 3
    go_wp2_with fail
    refine ct.mono ?_
    rintro e W7 ⟨rfl, hn7⟩
    clear ct k0 k1 k2 k3
    have HN7 := Lib.hid hn7
    have hx7 := HX.out.below hn7
    have cm := HM.out W7 HN7.out
    clear hn7
    have k0 := hx7.cell 0
    have k1 := hx7.cell 1
    have k2 := hx7.cell 2
    have k3 := hx7.cell 3
    go_wp2_with fail
    refine cm.mono ?_
    rintro e W8 ⟨rfl, hn8⟩
    clear cm k0 k1 k2 k3
    have HN8 := Lib.hid (HN7.out.trans (hn8.mono HN7.out.size))
    have hx8 := HX.out.below HN8.out
    have cs := HS.out W8 HN8.out
    clear hn8 hx7
    have k0 := hx8.cell 0
    have k1 := hx8.cell 1
    have k2 := hx8.cell 2
    have k3 := hx8.cell 3
    go_wp2_with fail
    refine cs.mono ?_
    rintro e W9 ⟨rfl, hn9⟩
    clear cs k0 k1 k2 k3
    clear hx8
    have HN9 := Lib.hid (HN8.out.trans (hn9.mono HN8.out.size))
    clear hn9
    go_upto_region 5 with fail
    obtain ⟨W10, hW10⟩ : ∃ W10, W10 = W9.alloc (.cells #[.int .i64 0, .string ⟨#[]⟩, .int .i64 0, .slice none 0 0] 26) := ⟨_, rfl⟩
    have hb10 : Below W9.heap.size W9 W10 := by rw [hW10]; exact (Below.refl _ _).alloc (Nat.le_refl _) _
    have HY := Lib.hid (show Blk W10 W9.heap.size #[.int .i64 0, .string ⟨#[]⟩, .int .i64 0, .slice none 0 0] 26 by rw [hW10]; exact Blk.new _ _ _)
    rw [← hW10]
    clear hW10
    have HN10 := Lib.hid (HN9.out.trans (hb10.mono HN9.out.size))
    clear hb10
    have hx10 := HX.out.below HN10.out
    have cw := HV.out W10 HN10.out
    have k0 := hx10.cell 0
    have k1 := hx10.cell 1
    have k2 := hx10.cell 2
    have k3 := hx10.cell 3
    go_wp2_with fail
    refine cw.mono ?_
    rintro e W11 ⟨rfl, hn11⟩
    clear cw k0 k1 k2 k3
    clear hx10
    have HN11 := Lib.hid (HN10.out.trans (hn11.mono HN10.out.size))
    have hy11 := HY.out.below hn11
    have HZ0 := Lib.hid (show Below W11.heap.size W11 W11 from Below.refl _ _)
    have cq := same_any 1 (0, [], 0, .nil) (0, [], 0, .nil) (fun _ => True) (fun _ => True) (.agg #[.int .i64 0, .string ⟨#[]⟩, .int .i64 0, .slice none 0 0]) (.agg #[.int .i64 0, .string ⟨#[]⟩, .int .i64 0, .slice none 0 0]) W11 (by decide) ⟨_, rfl, KidsV.nil _ _⟩ ⟨_, rfl, KidsV.nil _ _⟩
    rw [(Tm.same_iff _ _).2 rfl] at cq
    clear hn11
    have k0 := hy11.cell 0
    have k1 := hy11.cell 1
    have k2 := hy11.cell 2
    have k3 := hy11.cell 3
    go_wp2_with fail
    refine cq.mono ?_
    rintro e W12 ⟨rfl, hn12⟩
    clear cq k0 k1 k2 k3
    have HN12 := Lib.hid (HN11.out.trans (hn12.mono HN11.out.size))
    have cl := HL.out W12 (HW6.out.trans (HN12.out.mono HW6.out.size))
    clear hn12 hy11
    go_wp2_with fail
    refine cl.mono ?_
    rintro e W13 ⟨rfl, hn13⟩
    have HN13 := Lib.hid (HN12.out.trans (hn13.mono HN12.out.size))
    clear hn13 cl
    go_wp2
    go_ret
    exact ⟨rfl, HW6.out.trans (HN13.out.mono HW6.out.size)⟩
  | true =>
    rw [hok] at cv
    have HV := Lib.hid cv
    have hsh : t.fo.shp = true := by have h := Tm.ok_shp hok; rw [fo_shp, h.1, h.2.1]; rfl
    have hcn : t.fo.cnt ≤ 64 := by have h := (Tm.ok_shp hok).2.2; rw [fo_cnt]; omega
    have htl : t.tx.length ≤ 1024 := by have := tx_len hsh; omega
    have hsok := short_ok t hok
    have HPT := Lib.hid (show parseT t.tx = some t from parseT_some.2 ⟨hok, rfl⟩)
    have ct := termstext_any HT6.out hok (HLB.out.below HW6.out)
    have HM := Lib.hid (show ∀ W, Below W6.heap.size W6 W → _ from fun W hb => bigmarks_any (HT6.out.below hb) hok)
    have HS := Lib.hid (show ∀ W, Below W6.heap.size W6 W → _ from fun W hb => bigshort_any (HT6.out.below hb) hok (HLB.out.below (HW6.out.trans (hb.mono HW6.out.size))))
    have HRT := Lib.hid (show ∀ W, Below W6.heap.size W6 W → Calls Tryz.prog 43 #[.agg #[.int .i64 t.1, .string ⟨t.2.1.toArray⟩, .int .i64 t.2.2.1, .slice A3 m3 c3]] W (RetW (.string ⟨t.tx.toArray⟩) W) from fun W hb => rtext_any _ t _ _ W (Nat.lt_succ_self _) (HT6.out.below hb) hsh (by omega))
    have HRM := Lib.hid (show ∀ W, Below W6.heap.size W6 W → Calls Tryz.prog 44 #[.agg #[.int .i64 t.1, .string ⟨t.2.1.toArray⟩, .int .i64 t.2.2.1, .slice A3 m3 c3]] W (RetStrO (marksM t) W) from fun W hb => by have h := rmarks_any (HT6.out.below hb) (show t.fo.cnt ≤ 1000 by omega); rw [rm_marks] at h; exact h)
    have HRS := Lib.hid (show ∀ W, Below W6.heap.size W6 W → Calls Tryz.prog 45 #[.agg #[.int .i64 t.1, .string ⟨t.2.1.toArray⟩, .int .i64 t.2.2.1, .slice A3 m3 c3]] W (RetTm (fun u => u = t.short) W) from fun W hb => rshort_any _ t _ _ W (Nat.lt_succ_self _) (HT6.out.below hb) hsh (by omega))
    have HPA := Lib.hid (show ∀ W, Below W6.heap.size W6 W → Calls Tryz.prog 11 #[.string ⟨t.tx.toArray⟩] W (RetParse t.tx W) from fun W hb => parse_any B0 _ W (by omega) (HLB.out.below (HW6.out.trans (hb.mono HW6.out.size))))
    have HSA := Lib.hid (show ∀ W v, Below W6.heap.size W6 W → TmV (fun _ => True) W v t → Calls Tryz.prog 42 #[v, .agg #[.int .i64 t.1, .string ⟨t.2.1.toArray⟩, .int .i64 t.2.2.1, .slice A3 m3 c3]] W (RetW (.bool true) W) from fun W v hb hv => by
      have h := same_any _ t t _ _ v (.agg #[.int .i64 t.1, .string ⟨t.2.1.toArray⟩, .int .i64 t.2.2.1, .slice A3 m3 c3]) W (Nat.lt_succ_self _) hv (HT6.out.below hb)
      rw [(Tm.same_iff _ _).2 rfl] at h
      exact h)
    obtain ⟨tx, htx⟩ : ∃ tx, t.tx = tx := ⟨_, rfl⟩
    obtain ⟨n, hn⟩ : ∃ n, tx.length = n := ⟨_, rfl⟩
    obtain ⟨ts, hts⟩ : ∃ ts, t.short = ts := ⟨_, rfl⟩
    obtain ⟨mt, hmt⟩ : ∃ mt, marksM t = mt := ⟨_, rfl⟩
    rw [htx] at ct HRT HPA HPT htl
    rw [hn] at htl
    rw [hmt] at HM HRM
    rw [hts] at HS HRS
    have HTL := Lib.hid (show tx.length ≤ 2000 by omega)
    have hsz : (⟨tx.toArray⟩ : ByteArray).size = n := by show tx.toArray.size = _; simpa using hn
    have hbn : ((⟨tx.toArray⟩ : ByteArray) != ⟨tx.toArray⟩) = false := by show (!((⟨tx.toArray⟩ : ByteArray) == ⟨tx.toArray⟩)) = false; rw [ba_eq]; simp
    have dn : decide ((2000 : Int) < (n : Int)) = false := decide_eq_false (by omega)
    clear cv HT6 HSM hok hsh hcn hsok htx hn hts hmt
    generalize t.1 = kk at *
    generalize t.2.1 = knm at *
    generalize t.2.2.1 = kn at *
    have k0 := HX.out.cell 0
    have k1 := HX.out.cell 1
    have k2 := HX.out.cell 2
    have k3 := HX.out.cell 3
    go_wp2_with fail
    refine ct.mono ?_
    rintro e W7 ⟨rfl, hn7⟩
    clear ct k0 k1 k2 k3
    have HN7 := Lib.hid hn7
    have hx7 := HX.out.below hn7
    have cm := HM.out W7 HN7.out
    clear hn7
    have k0 := hx7.cell 0
    have k1 := hx7.cell 1
    have k2 := hx7.cell 2
    have k3 := hx7.cell 3
    go_wp2_with fail
    refine cm.mono ?_
    rintro e W8 ⟨v8, rfl, ho8, hn8⟩
    clear cm k0 k1 k2 k3
    obtain ⟨A8, c8, rfl⟩ := ho8.form
    have HO8 := Lib.hid ho8.strV
    have HN8 := Lib.hid (HN7.out.trans (hn8.mono HN7.out.size))
    have hx8 := HX.out.below HN8.out
    have cs := HS.out W8 HN8.out
    clear hn8 hx7 ho8
    have k0 := hx8.cell 0
    have k1 := hx8.cell 1
    have k2 := hx8.cell 2
    have k3 := hx8.cell 3
    go_wp2_with fail
    refine cs.mono ?_
    rintro e W9 ⟨tq, vq, rfl, ⟨uq, rfl, hkq⟩, htq, hn9⟩
    clear cs k0 k1 k2 k3
    clear hx8
    subst htq
    obtain ⟨A9, m9, c9, rfl, -⟩ := hkq.open'
    have HN9 := Lib.hid (HN8.out.trans (hn9.mono HN8.out.size))
    have HO9 := Lib.hid (HO8.out.below hn9)
    have HK9 := Lib.hid hkq
    clear hn9 hkq HO8
    go_upto_region 5 with fail
    obtain ⟨W10, hW10⟩ : ∃ W10, W10 = W9.alloc (.cells #[.int .i64 tq.1, .string ⟨tq.2.1.toArray⟩, .int .i64 tq.2.2.1, .slice A9 m9 c9] 26) := ⟨_, rfl⟩
    have hb10 : Below W9.heap.size W9 W10 := by rw [hW10]; exact (Below.refl _ _).alloc (Nat.le_refl _) _
    have HY := Lib.hid (show Blk W10 W9.heap.size #[.int .i64 tq.1, .string ⟨tq.2.1.toArray⟩, .int .i64 tq.2.2.1, .slice A9 m9 c9] 26 by rw [hW10]; exact Blk.new _ _ _)
    rw [← hW10]
    clear hW10
    have HN10 := Lib.hid (HN9.out.trans (hb10.mono HN9.out.size))
    have HO10 := Lib.hid (HO9.out.below hb10)
    have HK10 := Lib.hid (HK9.out.below hb10)
    obtain ⟨by', hby⟩ : ∃ b, W9.heap.size = b := ⟨_, rfl⟩
    rw [hby] at HY ⊢
    clear hb10 HO9 HK9 hby
    have hx10 := HX.out.below HN10.out
    have cw := HV.out W10 HN10.out
    have k0 := hx10.cell 0
    have k1 := hx10.cell 1
    have k2 := hx10.cell 2
    have k3 := hx10.cell 3
    go_wp2_with fail
    refine cw.mono ?_
    rintro e W11 ⟨rfl, hn11⟩
    clear cw k0 k1 k2 k3
    clear hx10
    have HN11 := Lib.hid (HN10.out.trans (hn11.mono HN10.out.size))
    have HB11 := Lib.hid (HW6.out.trans (HN11.out.mono HW6.out.size))
    have HY11 := Lib.hid (HY.out.below hn11)
    have HX11 := Lib.hid (HX.out.below HN11.out)
    have HO11 := Lib.hid (HO10.out.below hn11)
    have HK11 := Lib.hid (HK10.out.below hn11)
    clear hn11 HO10 HK10 HY
    have HSB := Lib.hid (show ∀ W v, Below W11.heap.size W11 W → TmV (fun _ => True) W v tq → Calls Tryz.prog 42 #[.agg #[.int .i64 tq.1, .string ⟨tq.2.1.toArray⟩, .int .i64 tq.2.2.1, .slice A9 m9 c9], v] W (RetW (.bool true) W) from fun W v hb hv => by
      have h := same_any _ tq tq _ _ (.agg #[.int .i64 tq.1, .string ⟨tq.2.1.toArray⟩, .int .i64 tq.2.2.1, .slice A9 m9 c9]) v W (Nat.lt_succ_self _) ⟨_, rfl, HK11.out.below hb⟩ hv
      rw [(Tm.same_iff _ _).2 rfl] at h
      exact h)
    have HLS := Lib.hid (show ∀ W v, Below W11.heap.size W11 W → StrV W v mt → Calls Tryz.prog 33 #[.slice A8 mt.length c8, v] W (RetW (.bool true) W) from fun W v hb hv => by
      have h := lawsame_any (HO11.out.below hb) hv
      rw [decide_eq_true rfl] at h
      exact h)
    clear HK11 HO11
    generalize hqk : tq.1 = qk at *
    generalize hqnm : tq.2.1 = qnm at *
    generalize hqn : tq.2.2.1 = qn at *
    have HQE := Lib.hid (And.intro hqk (And.intro hqnm hqn))
    clear hqk hqnm hqn
    have HF0 := Lib.hid (And.intro (HX11.out.cell 0) HX11.out.lt)
    have HF1 := Lib.hid (And.intro (HX11.out.cell 1) HX11.out.lt)
    have HF2 := Lib.hid (And.intro (HX11.out.cell 2) HX11.out.lt)
    have HF3 := Lib.hid (And.intro (HX11.out.cell 3) HX11.out.lt)
    have HF4 := Lib.hid (And.intro (HY11.out.cell 0) HY11.out.lt)
    have HF5 := Lib.hid (And.intro (HY11.out.cell 1) HY11.out.lt)
    have HF6 := Lib.hid (And.intro (HY11.out.cell 2) HY11.out.lt)
    have HF7 := Lib.hid (And.intro (HY11.out.cell 3) HY11.out.lt)
    go_upto_region 7 with fail
    refine Lex.wp_region_lex (fun w' => Below W11.heap.size W11 w') (fun _ => true)
      [(0, true), (1, true), (2, false), (3, true), (4, true), (5, true), (6, true), (7, true), (8, true), (9, true), (10, true), (11, false), (12, false), (13, true), (14, true), (15, true), (16, true), (17, true), (18, true), (19, true), (20, true), (21, true), (22, false), (23, false), (24, true), (25, true), (26, true), (27, true), (28, true), (29, true), (30, true), (31, false), (32, true), (33, true)]
      (by kernel_rfl) (by kernel_rfl) (by kernel_rfl) (by kernel_rfl) ⟨rfl, rfl, rfl, Nat.le_refl _, fun _ _ => rfl⟩ ?_
    have hb0 : Below W11.heap.size W11 W11.drew := ⟨rfl, rfl, rfl, Nat.le_refl _, fun _ _ => rfl⟩
    have hw0 : Below w.heap.size w W11.drew := ⟨HB11.out.os, HB11.out.tape, HB11.out.output, HB11.out.size, HB11.out.block⟩
    generalize hV0 : W11.drew = V0 at *
    clear hV0
    iterate 2 (refine Lex.lex_take (v := ?_) rfl rfl (by rfl) (fun _ hS => ?_) ?_; rotate_left 1; (focus (have g0 := (hS.cell HF0.out.2).trans HF0.out.1; have g1 := (hS.cell HF1.out.2).trans HF1.out.1; have g2 := (hS.cell HF2.out.2).trans HF2.out.1; have g3 := (hS.cell HF3.out.2).trans HF3.out.1; have g4 := (hS.cell HF4.out.2).trans HF4.out.1; have g5 := (hS.cell HF5.out.2).trans HF5.out.1; have g6 := (hS.cell HF6.out.2).trans HF6.out.1; have g7 := (hS.cell HF7.out.2).trans HF7.out.1; clear hS; go_simp; with_reducible rfl)); simp only [List.setIfInBounds_toArray, List.set_cons_zero, List.set_cons_succ])
    refine Lex.lex_do rfl ?_
    have cc := HRT.out V0 (HN11.out.trans (hb0.mono HN11.out.size))
    go_wp2_with fail
    refine cc.mono ?_
    rintro e V1 ⟨rfl, hn1⟩
    have hb1 := hb0.trans (hn1.mono hb0.size)
    have hw1 := hw0.trans (hn1.mono hw0.size)
    clear cc hb0 hw0
    clear hn1
    go_wp2_with fail
    refine Lex.lexQ_normal (fun _ => hb1) ?_
    iterate 8 (refine Lex.lex_take (v := ?_) rfl rfl (by rfl) (fun _ hS => ?_) ?_; rotate_left 1; (focus (have g0 := (hS.cell HF0.out.2).trans HF0.out.1; have g1 := (hS.cell HF1.out.2).trans HF1.out.1; have g2 := (hS.cell HF2.out.2).trans HF2.out.1; have g3 := (hS.cell HF3.out.2).trans HF3.out.1; have g4 := (hS.cell HF4.out.2).trans HF4.out.1; have g5 := (hS.cell HF5.out.2).trans HF5.out.1; have g6 := (hS.cell HF6.out.2).trans HF6.out.1; have g7 := (hS.cell HF7.out.2).trans HF7.out.1; clear hS; go_simp; with_reducible rfl)); simp only [List.setIfInBounds_toArray, List.set_cons_zero, List.set_cons_succ])
    refine Lex.lex_do rfl ?_
    have cc := HRM.out V1 (HN11.out.trans (hb1.mono HN11.out.size))
    go_wp2_with fail
    refine cc.mono ?_
    rintro e V2 ⟨vm, rfl, hom, hn2⟩
    have hb2 := hb1.trans (hn2.mono hb1.size)
    have hw2 := hw1.trans (hn2.mono hw1.size)
    clear cc hb1 hw1
    obtain ⟨Am, cm, rfl⟩ := hom.form
    have HOM := Lib.hid hom.strV
    clear hom
    clear hn2
    go_wp2_with fail
    refine Lex.lexQ_normal (fun _ => hb2) ?_
    refine Lex.lex_do rfl ?_
    have cc := HLS.out V2 _ hb2 HOM.out
    go_wp2_with fail
    refine cc.mono ?_
    rintro e V3 ⟨rfl, hn3⟩
    have hb3 := hb2.trans (hn3.mono hb2.size)
    have hw3 := hw2.trans (hn3.mono hw2.size)
    clear cc hb2 hw2
    clear hn3
    go_wp2_with fail
    refine Lex.lexQ_normal (fun _ => hb3) ?_
    iterate 9 (refine Lex.lex_take (v := ?_) rfl rfl (by rfl) (fun _ hS => ?_) ?_; rotate_left 1; (focus (have g0 := (hS.cell HF0.out.2).trans HF0.out.1; have g1 := (hS.cell HF1.out.2).trans HF1.out.1; have g2 := (hS.cell HF2.out.2).trans HF2.out.1; have g3 := (hS.cell HF3.out.2).trans HF3.out.1; have g4 := (hS.cell HF4.out.2).trans HF4.out.1; have g5 := (hS.cell HF5.out.2).trans HF5.out.1; have g6 := (hS.cell HF6.out.2).trans HF6.out.1; have g7 := (hS.cell HF7.out.2).trans HF7.out.1; clear hS; go_simp; with_reducible rfl)); simp only [List.setIfInBounds_toArray, List.set_cons_zero, List.set_cons_succ])
    refine Lex.lex_do rfl ?_
    have cc := HRS.out V3 (HN11.out.trans (hb3.mono HN11.out.size))
    go_wp2_with fail
    refine cc.mono ?_
    rintro e V4 ⟨tr, vr, rfl, ⟨ur, rfl, hkr⟩, htr, hn4⟩
    have hb4 := hb3.trans (hn4.mono hb3.size)
    have hw4 := hw3.trans (hn4.mono hw3.size)
    clear cc hb3 hw3
    subst htr
    obtain ⟨Ar, mr, cr, rfl, -⟩ := hkr.open'
    have HKR := Lib.hid hkr
    rw [HQE.out.1, HQE.out.2.1, HQE.out.2.2]
    clear hkr
    clear hn4
    go_wp2_with fail
    refine Lex.lexQ_normal (fun _ => hb4) ?_
    refine Lex.lex_do rfl ?_
    have cc := HSB.out V4 (.agg #[.int .i64 qk, .string ⟨qnm.toArray⟩, .int .i64 qn, .slice Ar mr cr]) hb4 ⟨_, by rw [HQE.out.1, HQE.out.2.1, HQE.out.2.2], HKR.out.mono (fun _ _ _ => trivial)⟩
    go_wp2_with fail
    refine cc.mono ?_
    rintro e V5 ⟨rfl, hn5⟩
    have hb5 := hb4.trans (hn5.mono hb4.size)
    have hw5 := hw4.trans (hn5.mono hw4.size)
    clear cc hb4 hw4
    clear hn5
    go_wp2_with fail
    refine Lex.lexQ_normal (fun _ => hb5) ?_
    iterate 7 (refine Lex.lex_take (v := ?_) rfl rfl (by rfl) (fun _ hS => ?_) ?_; rotate_left 1; (focus (have g0 := (hS.cell HF0.out.2).trans HF0.out.1; have g1 := (hS.cell HF1.out.2).trans HF1.out.1; have g2 := (hS.cell HF2.out.2).trans HF2.out.1; have g3 := (hS.cell HF3.out.2).trans HF3.out.1; have g4 := (hS.cell HF4.out.2).trans HF4.out.1; have g5 := (hS.cell HF5.out.2).trans HF5.out.1; have g6 := (hS.cell HF6.out.2).trans HF6.out.1; have g7 := (hS.cell HF7.out.2).trans HF7.out.1; clear hS; go_simp; with_reducible rfl)); simp only [List.setIfInBounds_toArray, List.set_cons_zero, List.set_cons_succ])
    refine Lex.lex_do rfl ?_
    have cc := HL.out V5 hw5
    go_wp2_with fail
    refine cc.mono ?_
    rintro e V6 ⟨rfl, hn6⟩
    have hb6 := hb5.trans (hn6.mono hb5.size)
    have hw6 := hw5.trans (hn6.mono hw5.size)
    clear cc hb5 hw5
    clear hn6
    go_wp2_with fail
    refine Lex.lexQ_normal (fun _ => hb6) ?_
    iterate 2 (refine Lex.lex_take (v := ?_) rfl rfl (by rfl) (fun _ hS => ?_) ?_; rotate_left 1; (focus (have g0 := (hS.cell HF0.out.2).trans HF0.out.1; have g1 := (hS.cell HF1.out.2).trans HF1.out.1; have g2 := (hS.cell HF2.out.2).trans HF2.out.1; have g3 := (hS.cell HF3.out.2).trans HF3.out.1; have g4 := (hS.cell HF4.out.2).trans HF4.out.1; have g5 := (hS.cell HF5.out.2).trans HF5.out.1; have g6 := (hS.cell HF6.out.2).trans HF6.out.1; have g7 := (hS.cell HF7.out.2).trans HF7.out.1; clear hS; go_simp; with_reducible rfl)); simp only [List.setIfInBounds_toArray, List.set_cons_zero, List.set_cons_succ])
    refine Lex.lex_nil ?_
    have HN12 := Lib.hid (HN11.out.trans (hb6.mono HN11.out.size))
    clear hb6 hw6 HRT HRM HLS HRS HSB HKR HOM HM HS HV
    have cp := HPA.out V6 HN12.out
    go_wp2_with fail
    refine cp.mono ?_
    rintro e W13 hr
    obtain ⟨v13, rfl, htm, hn13⟩ := hr.fine HPT.out HTL.out
    have HN13 := Lib.hid (HN12.out.trans (hn13.mono HN12.out.size))
    obtain ⟨u13, rfl, hk13⟩ := htm
    obtain ⟨A13, m13, c13, rfl, -⟩ := hk13.open'
    have HK13 := Lib.hid hk13
    clear cp hr hn13 hk13
    go_upto_region 10 with fail
    obtain ⟨W14, hW14⟩ : ∃ W14, W14 = W13.alloc (.cells #[.int .i64 t.1, .string ⟨t.2.1.toArray⟩, .int .i64 t.2.2.1, .slice A13 m13 c13] 26) := ⟨_, rfl⟩
    have hb14 : Below W13.heap.size W13 W14 := by rw [hW14]; exact (Below.refl _ _).alloc (Nat.le_refl _) _
    have HZ := Lib.hid (show Blk W14 W13.heap.size #[.int .i64 t.1, .string ⟨t.2.1.toArray⟩, .int .i64 t.2.2.1, .slice A13 m13 c13] 26 by rw [hW14]; exact Blk.new _ _ _)
    rw [← hW14]
    clear hW14
    have HN14 := Lib.hid (HN13.out.trans (hb14.mono HN13.out.size))
    have cq := HSA.out W14 (.agg #[.int .i64 t.1, .string ⟨t.2.1.toArray⟩, .int .i64 t.2.2.1, .slice A13 m13 c13]) HN14.out ⟨_, rfl, (HK13.out.below hb14).mono (fun _ _ _ => trivial)⟩
    have hx14 := HX.out.below HN14.out
    clear hb14 HSA HK13 HPT
    generalize t.1 = zk at *
    generalize t.2.1 = znm at *
    generalize t.2.2.1 = zn at *
    have y0 := HZ.out.cell 0
    have y1 := HZ.out.cell 1
    have y2 := HZ.out.cell 2
    have y3 := HZ.out.cell 3
    have k0 := hx14.cell 0
    have k1 := hx14.cell 1
    have k2 := hx14.cell 2
    have k3 := hx14.cell 3
    go_wp2_with fail
    refine cq.mono ?_
    rintro e W15 ⟨rfl, hn15⟩
    clear cq k0 k1 k2 k3
    have HN15 := Lib.hid (HN14.out.trans (hn15.mono HN14.out.size))
    clear hn15 y0 y1 y2 y3 hx14
    go_wp2
    go_ret
    exact ⟨rfl, HW6.out.trans (HN15.out.mono HW6.out.size)⟩
end Go.Proofs.YtobpacebpiabcaaGreatDoor
