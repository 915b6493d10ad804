/- TermsPast: what the law computes (printed by expand.py). -/
import Derived.Test.YtobpacebpiabcaaDoorDk
import Derived.Test.YtobpacebpiabcaaDoorPkDd
namespace Go.Proofs.YtobpacebpiabcaaDoor
open Go.RowKit Go.Lib

theorem EvV.takeV {w : World} {A : Option Addr} {n c k : Nat} {log : List Ev} (h : EvV w (.slice A n c) log) (hk : k ≤ n) : EvV w (.slice A k c) (log.take k) := by
  obtain ⟨A', c', e, h1, h2, h3, h4⟩ := h
  injection e with e1 e2 e3
  subst e1 e2 e3
  have hl : (log.take k).length = k := by rw [List.length_take]; omega
  refine ⟨A, c, by rw [hl], by omega, h2, h3, ?_⟩
  rcases h4 with h4 | ⟨b, off, hA, hb, hc⟩
  · subst h4; exact .inl (by simp)
  · refine .inr ⟨b, off, hA, hb, fun q hq => ?_⟩
    rw [hl] at hq
    rw [(take_at log k q hq).1, (take_at log k q hq).2]
    exact hc q (by omega)
theorem BoolN.takeV {nb : Option Nat} {w : World} {A : Option Addr} {n c k : Nat} {l : List Bool} (h : BoolN nb w (.slice A n c) l) (hk : k ≤ n) : BoolN nb w (.slice A k c) (l.take k) := by
  obtain ⟨A', c', e, h1, h2, h3, h4⟩ := h
  injection e with e1 e2 e3
  subst e1 e2 e3
  have hl : (l.take k).length = k := by rw [List.length_take]; omega
  refine ⟨A, c, by rw [hl], by omega, h2, h3, ?_⟩
  rcases h4 with h4 | ⟨b, off, hA, hn, hb, hc⟩
  · subst h4; exact .inl (by simp)
  · refine .inr ⟨b, off, hA, hn, hb, fun q u hq => hc q u ?_⟩
    rw [List.map_take, List.getElem?_take] at hq
    split at hq
    · exact hq
    · cases hq
theorem cut_range (x : Int) (n : Nat) (hn : n ≤ 1000) : ∃ c : Nat, c ≤ n ∧ (x.tmod ((n : Int) + 1) + (n : Int) + 1).tmod ((n : Int) + 1) = (c : Int) ∧ IntKind.i64.wrap (x.tmod ((n : Int) + 1) + (n : Int)) = x.tmod ((n : Int) + 1) + (n : Int) ∧ IntKind.i64.wrap (x.tmod ((n : Int) + 1) + (n : Int) + 1) = x.tmod ((n : Int) + 1) + (n : Int) + 1 := by
  have h1 : -((n : Int) + 1) < x.tmod ((n : Int) + 1) := by
    have := Int.lt_tmod_of_pos x (show (0 : Int) < (n : Int) + 1 by omega); omega
  have h2 : x.tmod ((n : Int) + 1) < (n : Int) + 1 := Int.tmod_lt_of_pos x (by omega)
  have h3 : 0 ≤ (x.tmod ((n : Int) + 1) + (n : Int) + 1).tmod ((n : Int) + 1) := Int.tmod_nonneg _ (by omega)
  have h4 : (x.tmod ((n : Int) + 1) + (n : Int) + 1).tmod ((n : Int) + 1) < (n : Int) + 1 := Int.tmod_lt_of_pos _ (by omega)
  refine ⟨((x.tmod ((n : Int) + 1) + (n : Int) + 1).tmod ((n : Int) + 1)).toNat, by omega, by omega, ?_, ?_⟩
  · rw [IntKind.wrap_i64]; omega
  · rw [IntKind.wrap_i64]; omega
theorem filt_succ (l : List (List UInt8)) (own : List (List UInt8)) (q : Nat) (h : q < l.length) : (l.take (q + 1)).filter (fun x => own.contains x) = (l.take q).filter (fun x => own.contains x) ++ (if own.contains (l.getD q []) = true then [l.getD q []] else []) := by
  rw [List.take_succ_eq_append_getElem h, List.filter_append, List.getD_eq_getElem?_getD, List.getElem?_eq_getElem h]
  congr 1
  simp only [Option.getD_some, List.filter]
  cases own.contains l[q] <;> rfl
set_option maxRecDepth 100000 in
set_option maxHeartbeats 25600000 in
theorem past_any {B0 N0 : Nat} {l : List Nd} {x : List Ev} {u v : Value} {w : World} (hu : NodesV N0 w u l) (hN : N0 ≤ w.heap.size) (hf : NdFit l) (hv : EvV w v x) (cut : Int) (hL : LibOk B0 w) : Calls Tryd.prog 3 #[u, v, .int .i64 cut] w (RetW (.bool true) w) := by
  have HS := Lib.hid (show ∀ W, Below w.heap.size w W → Calls Tryd.prog 10 #[u, .int .i64 20] W (RetTm (Abc 41) W) from fun W hb => some_any (hu.below hN hb) (Nat.le_trans hN hb.size) hf 20 (by omega))
  have HH := Lib.hid (show ∀ W, Below w.heap.size w W → Calls Tryd.prog 11 #[v, .int .i64 60] W (RetHist (min x.length 60) W) from fun W hb => history_any (hv.below hb) 60 (by omega))
  have HL := Lib.hid (show ∀ W, Below w.heap.size w W → Calls Tryd.prog 13 #[] W (RetW (.bool true) W) from fun W hb => lives_any B0 W (hL.below hb))
  obtain ⟨A1, m1, c1, rfl⟩ : ∃ A m c, u = .slice A m c := by obtain ⟨A, c, h, _⟩ := hu; exact ⟨A, _, c, h⟩
  obtain ⟨A2, m2, c2, rfl⟩ : ∃ A m c, v = .slice A m c := by obtain ⟨A, c, h, _⟩ := hv; exact ⟨A, _, c, h⟩
  obtain ⟨n, hn⟩ : ∃ n, min x.length 60 = n := ⟨_, rfl⟩
  rw [hn] at HH
  have hn60 : n ≤ 60 := by omega
  clear hu hN hf hv hL hn
  go_enter Tryd.func3, Tryd.ntmps3
  have cs := HS.out w (Below.refl _ _)
  go_wp2_with fail
  refine cs.mono ?_
  rintro e W4 ⟨t, v4, rfl, htm, hab, hb4⟩
  have HB4 := Lib.hid hb4
  have HT := Lib.hid htm
  have HAB := Lib.hid hab
  obtain ⟨u4, rfl, hk4⟩ := htm
  obtain ⟨A3, m3, c3, rfl, -⟩ := hk4.open'
  have ch := HH.out W4 HB4.out
  clear cs hab hb4 hk4
  go_wp2_with fail
  refine ch.mono ?_
  rintro e W5 ⟨log, v5, rfl, hown, hh, hb5⟩
  have HHI := Lib.hid hh
  have HE := Lib.hid hown.evV
  obtain ⟨A5, m5, c5, rfl, hm5, hmc5⟩ : ∃ A m c, v5 = .slice A m c ∧ m = n ∧ m ≤ c := by obtain ⟨A, c, h, h2, _⟩ := HE.out; exact ⟨A, _, c, h, hh.len, h2⟩
  subst hm5
  have HW5 := Lib.hid (HB4.out.trans (hb5.mono HB4.out.size))
  have HT5 := Lib.hid (HT.out.below hb5)
  clear ch hown hb5 hh
  go_upto_region 2 with fail
  obtain ⟨W6, hW6⟩ : ∃ W6, W6 = W5.alloc (.cells #[.int .i64 t.1, .string ⟨t.2.1.toArray⟩, .int .i64 t.2.2.1, .slice A3 m3 c3] 26) := ⟨_, rfl⟩
  have hb6 : Below W5.heap.size W5 W6 := by rw [hW6]; exact (Below.refl _ _).alloc (Nat.le_refl _) _
  have HX6 := Lib.hid (show Blk W6 W5.heap.size #[.int .i64 t.1, .string ⟨t.2.1.toArray⟩, .int .i64 t.2.2.1, .slice A3 m3 c3] 26 by rw [hW6]; exact Blk.new _ _ _)
  rw [← hW6]
  clear hW6
  have HW6 := Lib.hid (HW5.out.trans (hb6.mono HW5.out.size))
  have HT6 := Lib.hid (HT5.out.below hb6)
  have HE6 := Lib.hid (HE.out.below hb6)
  have HOK := Lib.hid (HAB.out.ok (by omega))
  have HLB := Lib.hid (HHI.out.logB (by omega))
  have HOB := Lib.hid (show (t.ok && logB log) = true by rw [HOK.out, HLB.out]; rfl)
  have HWT := Lib.hid (show ∀ W, Below W6.heap.size W6 W → ∀ a lg, EvV W a lg → EvFit lg → Calls Tryd.prog 12 #[.agg #[.int .i64 t.1, .string ⟨t.2.1.toArray⟩, .int .i64 t.2.2.1, .slice A3 m3 c3], a] W (RetWatch t lg W) from fun W hb a lg h1 h2 => watch_any (HT6.out.below hb) HAB.out.fit h1 h2)
  have HMK := Lib.hid (show ∀ W, Below W6.heap.size W6 W → Calls Tryd.prog 15 #[.agg #[.int .i64 t.1, .string ⟨t.2.1.toArray⟩, .int .i64 t.2.2.1, .slice A3 m3 c3]] W (RetStrO t.rm W) from fun W hb => rmarks_any (HT6.out.below hb) (by have := HAB.out.2.2; omega))
  have HZZ := Lib.hid (show zzzN ∉ t.fo.names from fun h => absurd (HAB.out.2.1 _ h) (by decide))
  have HLEN := Lib.hid HHI.out.len
  clear hb6 HE HT HT5 HW5 HB4 HS HH
  generalize t.1 = kk at *
  generalize t.2.1 = knm at *
  generalize t.2.2.1 = kn at *
  generalize W5.heap.size = TB at *
  have HB := Lib.hid (Below.refl W6.heap.size W6)
  have k0 := (HX6.out.below HB.out).cell 0
  have k1 := (HX6.out.below HB.out).cell 1
  have k2 := (HX6.out.below HB.out).cell 2
  have k3 := (HX6.out.below HB.out).cell 3
  have cw := HWT.out W6 HB.out _ _ (HE6.out.below HB.out) (HHI.out.fit (by omega))
  go_wp2_with fail
  refine cw.mono ?_
  rintro e W7 hr
  obtain ⟨v7, rfl, hbo, hb⟩ := hr.yes HOB.out
  replace HB := Lib.hid (HB.out.trans (hb.mono HB.out.size))
  have HBA := Lib.hid hbo.boolV
  obtain ⟨A7, c7, rfl, hc7, hcm7, -⟩ := HBA.out
  have HLA := Lib.hid (show (t.watch log).length = m5 by rw [watch_len']; exact HLEN.out)
  rw [HLA.out] at hc7 ⊢
  have HBAS := Lib.hid (show BoolN none W7 (.slice A7 m5 c7) (t.watch log) by have h := HBA.out; rw [HLA.out] at h; exact h)
  unfold maxLen at hcm7
  clear cw k0 k1 k2 k3 hr hbo hb HBA
  have cl := HL.out W7 (HW6.out.trans (HB.out.mono HW6.out.size))
  go_wp2_with fail
  refine cl.mono ?_
  rintro e W8 ⟨rfl, hb⟩
  replace HB := Lib.hid (HB.out.trans (hb.mono HB.out.size))
  replace HBAS := Lib.hid (BoolN.below HBAS.out hb)
  clear cl hb
  obtain ⟨ct, hct, ec, ew1, ew2⟩ := cut_range cut m5 (by omega)
  have uw : IntKind.i64.wrap ((m5 : Int) + 1) = (m5 : Int) + 1 := by rw [IntKind.wrap_i64]; omega
  have hnz : ¬ ((m5 : Int) + 1 = 0) := by omega
  have hct0 : (0 : Int) ≤ (ct : Int) := by omega
  have hctc : (ct : Int) ≤ (c5 : Int) := by omega
  have hctc7 : (ct : Int) ≤ (c7 : Int) := by omega
  have hbH := Lib.hid (HHI.out.take ct hct)
  have HOB2 := Lib.hid (show (t.ok && logB (log.take ct)) = true by rw [HOK.out, hbH.out.logB (by omega)]; rfl)
  have HWTK := Lib.hid (watch_take t log ct (by rw [HLEN.out]; exact hct))
  have HETK := Lib.hid (show ∀ W, Below W6.heap.size W6 W → EvV W (.slice A5 ct c5) (log.take ct) from fun W hb => (HE6.out.below hb).takeV hct)
  go_upto_region 6 with fail
  clear ec ew1 ew2 uw
  have HC0 := Lib.hid (And.intro ((HX6.out.below HB.out).cell 0) (HX6.out.below HB.out).lt)
  have HC1 := Lib.hid (And.intro ((HX6.out.below HB.out).cell 1) (HX6.out.below HB.out).lt)
  have HC2 := Lib.hid (And.intro ((HX6.out.below HB.out).cell 2) (HX6.out.below HB.out).lt)
  have HC3 := Lib.hid (And.intro ((HX6.out.below HB.out).cell 3) (HX6.out.below HB.out).lt)
  have HWP := Lib.hid (show ∀ W, Below W6.heap.size W6 W → Calls Tryd.prog 12 #[.agg #[.int .i64 kk, .string ⟨knm.toArray⟩, .int .i64 kn, .slice A3 m3 c3], .slice A5 ct c5] W (fun e w' => ∃ A c, e = .returned (.tuple #[.slice A ct c, .int .i64 0]) ∧ BoolN none w' (.slice A ct c) ((t.watch log).take ct) ∧ Below W.heap.size W w') from fun W hb => by
    refine (HWT.out W hb _ _ (HETK.out W hb) (hbH.out.fit (by omega))).mono ?_
    rintro e w' hr
    obtain ⟨v, rfl, hbo, hb⟩ := hr.yes HOB2.out
    have h := hbo.boolV
    rw [HWTK.out] at h
    obtain ⟨A, c, rfl, -⟩ := h
    have hl : ((t.watch log).take ct).length = ct := by rw [List.length_take, HLA.out]; omega
    refine ⟨A, c, by rw [hl], ?_, hb⟩
    have h := hbo.boolV
    rw [HWTK.out, hl] at h
    exact h)
  refine Lex.wp_region_lex (fun w' => Below W8.heap.size W8 w') (fun _ => true)
    [(0, true), (1, true), (2, true), (3, true), (4, false), (5, true), (6, true), (7, true), (8, false), (9, false)]
    (by kernel_rfl) (by kernel_rfl) (by kernel_rfl) (by kernel_rfl) ⟨rfl, rfl, rfl, Nat.le_refl _, fun _ _ => rfl⟩ ?_
  have hb0 : Below W8.heap.size W8 W8.drew := ⟨rfl, rfl, rfl, Nat.le_refl _, fun _ _ => rfl⟩
  have hw0 : Below W6.heap.size W6 W8.drew := ⟨HB.out.os, HB.out.tape, HB.out.output, HB.out.size, HB.out.block⟩
  generalize hV0 : W8.drew = V0 at *
  clear hV0
  iterate 4 (refine Lex.lex_take (v := ?_) rfl rfl (by rfl) (fun _ hS => ?_) ?_; rotate_left 1; (focus (have g0 := (hS.cell HC0.out.2).trans HC0.out.1; have g1 := (hS.cell HC1.out.2).trans HC1.out.1; have g2 := (hS.cell HC2.out.2).trans HC2.out.1; have g3 := (hS.cell HC3.out.2).trans HC3.out.1; clear hS; go_simp; with_reducible rfl)); simp only [List.setIfInBounds_toArray, List.set_cons_zero, List.set_cons_succ])
  refine Lex.lex_do rfl ?_
  have cc := HWP.out V0 hw0
  go_wp2_with fail
  refine cc.mono ?_
  rintro e V1 ⟨A9, c9, rfl, hbp, hn1⟩
  have hb1 := hb0.trans (hn1.mono hb0.size)
  have hw1 := hw0.trans (hn1.mono hw0.size)
  clear cc hb0 hw0
  have HBP := Lib.hid hbp
  clear hbp
  clear hn1
  go_wp2_with fail
  refine Lex.lexQ_normal (fun _ => hb1) ?_
  iterate 3 (refine Lex.lex_take (v := ?_) rfl rfl (by rfl) (fun _ hS => ?_) ?_; rotate_left 1; (focus (have g0 := (hS.cell HC0.out.2).trans HC0.out.1; have g1 := (hS.cell HC1.out.2).trans HC1.out.1; have g2 := (hS.cell HC2.out.2).trans HC2.out.1; have g3 := (hS.cell HC3.out.2).trans HC3.out.1; clear hS; go_simp; with_reducible rfl)); simp only [List.setIfInBounds_toArray, List.set_cons_zero, List.set_cons_succ])
  refine Lex.lex_do rfl ?_
  go_wp2_with fail
  refine Lex.lexQ_normal (fun _ => hb1) ?_
  refine Lex.lex_do rfl ?_
  go_wp2_with fail
  refine Lex.lexQ_normal (fun _ => hb1) ?_
  refine Lex.lex_nil ?_
  have HQ := Lib.hid hb1
  replace HB := Lib.hid hw1
  replace HBAS := Lib.hid (BoolN.below HBAS.out HQ.out)
  clear hb1 hw1 HWP
  have HBT := Lib.hid (BoolN.takeV HBAS.out hct)
  have cb := bools_any HBP.out HBT.out
  rw [show decide ((t.watch log).take ct = (t.watch log).take ct) = true from decide_eq_true rfl] at cb
  obtain ⟨W10, rfl⟩ : ∃ W10, W10 = V1 := ⟨_, rfl⟩
  go_wp2_with fail
  refine cb.mono ?_
  rintro e W11 ⟨rfl, hb⟩
  replace HB := Lib.hid (HB.out.trans (hb.mono HB.out.size))
  replace HBAS := Lib.hid (BoolN.below HBAS.out hb)
  clear cb hb HBT HBP HQ
  have k0 := (HX6.out.below HB.out).cell 0
  have k1 := (HX6.out.below HB.out).cell 1
  have k2 := (HX6.out.below HB.out).cell 2
  have k3 := (HX6.out.below HB.out).cell 3
  have cm := HMK.out W11 HB.out
  go_wp2_with fail
  refine cm.mono ?_
  rintro e W13 ⟨v13, rfl, ho13, hb⟩
  replace HB := Lib.hid (HB.out.trans (hb.mono HB.out.size))
  replace HBAS := Lib.hid (BoolN.below HBAS.out hb)
  have HOWN := Lib.hid ho13.strV
  have HIN := Lib.hid (show ∀ y, y ∈ t.fo.names → y ∈ t.rm from fun y hy => (mem_rm t y).2 hy)
  obtain ⟨A13, m13, c13, rfl⟩ := HOWN.out.form
  clear cm hb ho13 k0 k1 k2 k3
  generalize t.rm = own at *
  have cf := few_any (HE6.out.below HB.out) 60 (by omega)
  rw [HHI.out.few hn60 (by omega)] at cf
  go_wp2_with fail
  refine cf.mono ?_
  rintro e W14 ⟨v14, rfl, hown14, hb⟩
  have HO14 := Lib.hid hown14
  have HB14 := Lib.hid hb
  obtain ⟨A14, m14, c14, rfl, hm14⟩ : ∃ A m c, v14 = .slice A m c ∧ m = m5 := by obtain ⟨A, c, h, _⟩ := hown14.evV; exact ⟨A, _, c, h, HHI.out.len⟩
  subst hm14
  clear cf hown14 hb
  go_wp2
  go_loopw [15] (fun i wr => ∃ k : Nat, k ≤ m14 ∧ i = .int .i64 k ∧ OwnEv wr W13.heap.size (.slice A14 m14 c14) (mapTo (othE own) log k) ∧ Below W13.heap.size W13 wr) (fun i _ => m14 - (intOf i).toNat)
  case atStart => exact ⟨0, Nat.zero_le _, rfl, by rw [mapTo_zero]; exact HO14.out, HB14.out⟩
  case round =>
    clear HO14 HB14
    obtain ⟨k, hk, rfl, hown, hbw⟩ := hrel
    have HO := Lib.hid hown
    have HBR := Lib.hid hbw
    clear hown hbw
    by_cases hlt : k < m14
    · have hkl : k < log.length := by rw [HLEN.out]; exact hlt
      have hkm : k < (mapTo (othE own) log k).length := by rw [mapTo_len]; exact hkl
      obtain ⟨g, cx, uu, hv7, hgb, hglt, hcx1, hcx2, -, hc1, hsn, -, hf1⟩ := HO.out.at hkm
      have hA7 : A14 = some ⟨g, 0, none⟩ ∧ c14 = cx := by injection hv7 with h1 _ h3; exact ⟨h1, h3⟩
      obtain ⟨rfl, rfl⟩ := hA7
      have hmc7 : m14 ≤ c14 := by rw [mapTo_len, HLEN.out] at hcx1; exact hcx1
      unfold maxLen at hcx2
      have HSU := Lib.hid (mapTo_succ (othE own) log k hkl)
      have HMA := Lib.hid (mapTo_at (othE own) log k hkl)
      rw [HMA.out.2] at hsn
      obtain ⟨p, hp⟩ := HHI.out.marks k hlt
      have hml : (marksAt log k).length ≤ 3 := by rw [hp]; exact List.length_filter_le _ _
      have HOT := Lib.hid (show othE own (dayAt log k, marksAt log k) = (dayAt log k, (marksAt log k).filter (fun x => own.contains x) ++ [zzzN]) from rfl)
      generalize hms : marksAt log k = ms at *
      generalize dayAt log k = dk at *
      obtain ⟨L, hL⟩ : ∃ L, ms.length = L := ⟨_, rfl⟩
      obtain ⟨A2', c2', rfl, hlc2, hcm2, hA2, hsa⟩ := hsn
      rw [hL] at hlc2 hml hc1
      have HLM := Lib.hid hL
      have HSA := Lib.hid (show ∀ q, q < L → ∃ b off, A2' = some ⟨b, off, none⟩ ∧ b < wr.heap.size ∧ wr.cell? ⟨b, off + q, none⟩ = some (str (ms.getD q [])) from fun q hq => by
        rcases hsa with h | ⟨b, off, h1, _, h3, h4⟩
        · subst h; simp at hL; omega
        · refine ⟨b, off, h1, h3, h4 q _ ?_⟩
          rw [List.getElem?_map, List.getElem?_eq_getElem (by rw [hL]; exact hq), List.getD_eq_getElem?_getD, List.getElem?_eq_getElem (by rw [hL]; exact hq)]
          rfl)
      have HFS := Lib.hid (filt_succ ms own)
      have HC1 := Lib.hid (And.intro hc1 hglt)
      have HF1 := Lib.hid hf1
      have HGB := Lib.hid hgb
      have HKM := Lib.hid hkm
      have hi1 : (k : Int) < (m14 : Int) := by omega
      have hi0 : (0 : Int) ≤ (k : Int) := by omega
      unfold maxLen at hcm2
      obtain ⟨W9, rfl⟩ : ∃ W9, W9 = wr := ⟨wr, rfl⟩
      have hze : Below W9.heap.size W9 (W9.alloc (.cells #[] 9)) := (Below.refl _ _).alloc (Nat.le_refl _) _
      have HZE := Lib.hid hze
      clear hc1 hf1 hgb hv7 hkm hcx1 hp hL hsa hze hms
      go_wp2
      go_loopw [16, 17] (fun o i w2 => ∃ (q g3 cap3 M : Nat), q ≤ L ∧ i = .int .i64 q ∧ o = .slice (some ⟨g3, 0, none⟩) M cap3 ∧ ((ms.take q).filter (fun x => own.contains x)).length = M ∧ w2.ownsRow W9.heap.size 9 1 o M (((ms.take q).filter (fun x => own.contains x)).map str) ∧ Below W9.heap.size W9 w2) (fun _ i _ => L - (intOf i).toNat)
      case atStart => exact ⟨0, _, _, 0, Nat.zero_le _, rfl, rfl, by simp, by simpa using World.ownsRow_made W9 #[] 0 (Nat.le_refl _) (by unfold maxLen; omega) rfl, HZE.out⟩
      case round =>
        obtain ⟨q, g3, cap3, M, hq, rfl, rfl, hM, hown, hbw⟩ := hrel
        have HOM := Lib.hid hown
        have HBM := Lib.hid hbw
        have hM3 : M ≤ 100 := by rw [← hM]; exact Nat.le_trans (List.length_filter_le _ _) (by rw [List.length_take]; omega)
        have HMM := Lib.hid hM
        have ha := (HBM.out.cell (p := ⟨g, k * 2 + 1, none⟩) HC1.out.2).trans HC1.out.1
        clear hown hbw hM
        by_cases hqL : q < L
        · obtain ⟨b, off, rfl, hb, hcq⟩ := HSA.out q hqL
          have hcq' := (HBM.out.cell (p := ⟨b, off + q, none⟩) hb).trans hcq
          have hfs := HFS.out q (by rw [HLM.out]; exact hqL)
          have ch := refhas_any (ms.getD q []) (HOWN.out.below (HBR.out.trans (HBM.out.mono HBR.out.size)))
          rw [show hasB own (ms.getD q []) = own.contains (ms.getD q []) from rfl] at ch
          generalize ms.getD q [] = y at *
          have HFSQ := Lib.hid hfs
          unfold str at hcq'
          have hqi : (q : Int) < (L : Int) := by omega
          have hqi0 : (0 : Int) ≤ (q : Int) := by omega
          clear hcq hfs
          go_wp2_with fail
          refine ch.mono ?_
          rintro e w3 ⟨rfl, rfl⟩
          clear ch
          cases hoc : own.contains y with
          | false =>
            have HSM := Lib.hid (show (ms.take (q + 1)).filter (fun x => own.contains x) = (ms.take q).filter (fun x => own.contains x) by rw [HFSQ.out, if_neg (by rw [hoc]; decide), List.append_nil])
            clear hoc
            go_wp2
            go_roundw
            case rel => exact ⟨q + 1, g3, cap3, M, by omega, by go_num, rfl, by rw [HSM.out]; exact HMM.out, by rw [HSM.out]; exact HOM.out, HBM.out⟩
            case measure => first | (simp [intOf]; done) | (simp [intOf]; omega)
          | true =>
            have HSM := Lib.hid (show (ms.take (q + 1)).filter (fun x => own.contains x) = (ms.take q).filter (fun x => own.contains x) ++ [y] by rw [HFSQ.out, if_pos hoc])
            clear hoc
            obtain ⟨W10, rfl⟩ : ∃ W10, W10 = wr := ⟨wr, rfl⟩
            have hsz := HBM.out.size
            go_wp2_with (at_builtin; refine wpList_app Tryd.underlying35 info_str rfl (by omega) (by omega) _ rfl _ _ rfl W9.heap.size _ M (((ms.take q).filter (fun x => own.contains x)).map str) rfl (HOM.out.alloc _) W10.heap.size #[.string ⟨y.toArray⟩] rfl (heap_alloc_new W10 _) rfl (by simp [Value.oneCell']) (by omega) (by simp; omega) (W10.heap.size + 1) (by simp) ?_)
            intro g4 cap4 W11' hown4 hgrow4 hat4 hlt4
            have hb4 := (HBM.out.alloc HBM.out.size (.cells #[.string ⟨y.toArray⟩] 9)).grown hgrow4 (by simp; omega) (fun z hz => (World.ownsRow.lt HOM.out z hz).1)
            have HB4' := Lib.hid hb4
            have HLF := Lib.hid (show ((ms.take (q + 1)).filter (fun x => own.contains x)).length = M + 1 by rw [HSM.out, List.length_append, HMM.out]; rfl)
            have HOF := Lib.hid (show W11'.ownsRow W9.heap.size 9 1 (.slice (some ⟨g4, 0, none⟩) (M + 1) cap4) (M + 1) (((ms.take (q + 1)).filter (fun x => own.contains x)).map str) by rw [HSM.out, List.map_append]; simpa [str] using hown4)
            clear hown4 hgrow4 hat4 hlt4 hb4 hsz
            go_wp2
            go_roundw
            case rel => exact ⟨q + 1, g4, cap4, M + 1, by omega, by go_num, rfl, HLF.out, HOF.out, HB4'.out⟩
            case measure => first | (simp [intOf]; done) | (simp [intOf]; omega)
        · obtain rfl : L = q := by omega
          rw [show ms.take L = ms from List.take_of_length_le (by rw [HLM.out]; exact Nat.le_refl _)] at HMM HOM
          have hof : W9.frozen? ⟨g, k * 2 + 1, none⟩ = false := HF1.out
          obtain ⟨W10, rfl⟩ : ∃ W10, W10 = wr := ⟨wr, rfl⟩
          have hsz := HBM.out.size
          go_wp2_with (at_builtin; refine wpList_app Tryd.underlying35 info_str rfl (by omega) (by omega) _ rfl _ _ rfl W9.heap.size _ M ((ms.filter (fun x => own.contains x)).map str) rfl (HOM.out.alloc _) W10.heap.size #[.string ⟨#[122, 122, 122]⟩] rfl (heap_alloc_new W10 _) rfl (by simp [Value.oneCell']) (by omega) (by simp; omega) (W10.heap.size + 1) (by simp) ?_)
          intro g4 cap4 W12 hown4 hgrow4 hat4 hlt4
          have hb4 := (HBM.out.alloc HBM.out.size (.cells #[.string ⟨#[122, 122, 122]⟩] 9)).grown hgrow4 (by simp; omega) (fun z hz => (World.ownsRow.lt HOM.out z hz).1)
          have HB4 := Lib.hid hb4
          have HSO := Lib.hid (show StrO W12 W9.heap.size (.slice (some ⟨g4, 0, none⟩) (M + 1) cap4) (ms.filter (fun x => own.contains x) ++ [zzzN]) by
            unfold StrO
            rw [List.length_append, HMM.out, List.map_append]
            simpa [str, zzzN] using hown4)
          clear hown4 hgrow4 hat4 hlt4 hb4 hsz hof
          have HSN := Lib.hid (HSO.out.strN (nb := some g) (fun b hb e => by have := Option.some.inj e; have := HC1.out.2; omega))
          have HOX := Lib.hid (HO.out.below HB4.out)
          have hcx := (HB4.out.cell (p := ⟨g, k * 2 + 1, none⟩) HC1.out.2).trans HC1.out.1
          have hfx := (HOX.out.free HKM.out).2
          have HN := Lib.hid (show OwnEv (W12.setCell ⟨g, k * 2 + 1, none⟩ (.slice (some ⟨g4, 0, none⟩) (M + 1) cap4)) W13.heap.size (.slice (some ⟨g, 0, none⟩) m14 c14) (mapTo (othE own) log (k + 1)) by
            have h := HOX.out.setMark HKM.out HSN.out
            rw [HMA.out.1] at h
            rw [HSU.out, HOT.out]
            exact h)
          have HBN := Lib.hid ((HBR.out.trans (HB4.out.mono HBR.out.size)).setCell (p := ⟨g, k * 2 + 1, none⟩) HGB.out (.slice (some ⟨g4, 0, none⟩) (M + 1) cap4))
          go_wp2
          go_roundw
          case rel => exact ⟨k + 1, by omega, by go_num, HN.out, HBN.out⟩
          case measure => first | (simp [intOf]; done) | (simp [intOf]; omega)
    · obtain rfl : m14 = k := by omega
      rw [mapTo_all (othE own) log m14 (by rw [HLEN.out]; exact Nat.le_refl _)] at HO
      have HE2 := Lib.hid HO.out.evV
      replace HB := Lib.hid (HB.out.trans (HBR.out.mono HB.out.size))
      replace HBAS := Lib.hid (BoolN.below HBAS.out HBR.out)
      have HOB3 := Lib.hid (show (t.ok && logB (log.map (othE own))) = true by rw [HOK.out, HHI.out.oth (by omega)]; rfl)
      have HWO := Lib.hid (watch_oth (t := t) (own := own) log (fun y hy => HIN.out y hy) HZZ.out)
      obtain ⟨W15, rfl⟩ : ∃ W15, W15 = wr := ⟨wr, rfl⟩
      have cw := HWT.out W15 HB.out _ _ HE2.out (HHI.out.othFit (by omega) own)
      have k0 := (HX6.out.below HB.out).cell 0
      have k1 := (HX6.out.below HB.out).cell 1
      have k2 := (HX6.out.below HB.out).cell 2
      have k3 := (HX6.out.below HB.out).cell 3
      go_wp2_with fail
      refine cw.mono ?_
      rintro e W16 hr
      obtain ⟨v16, rfl, hbo, hb⟩ := hr.yes HOB3.out
      rw [HWO.out] at hbo
      replace HB := Lib.hid (HB.out.trans (hb.mono HB.out.size))
      replace HBAS := Lib.hid (BoolN.below HBAS.out hb)
      have HBO := Lib.hid hbo.boolV
      have cb := bools_any HBO.out HBAS.out
      rw [show decide (t.watch log = t.watch log) = true from decide_eq_true rfl] at cb
      clear cw hr hbo hb k0 k1 k2 k3
      go_wp2_with fail
      refine cb.mono ?_
      rintro e W17 ⟨rfl, hb⟩
      have HF := Lib.hid (HW6.out.trans ((HB.out.trans (hb.mono HB.out.size)).mono HW6.out.size))
      clear cb hb
      go_wp2
      go_ret
      exact ⟨rfl, HF.out⟩
end Go.Proofs.YtobpacebpiabcaaDoor
