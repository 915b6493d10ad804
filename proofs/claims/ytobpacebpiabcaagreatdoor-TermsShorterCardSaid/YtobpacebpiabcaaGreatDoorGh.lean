/- TermsShorter: what the law computes (printed by expand.py). -/
import Derived.Test.YtobpacebpiabcaaGreatDoorGc
import Derived.Test.YtobpacebpiabcaaGreatDoorPkGd
import Derived.Test.YtobpacebpiabcaaGreatDoorGg
import Derived.Test.YtobpacebpiabcaaGreatDoorPkDm
import Derived.Test.YtobpacebpiabcaaGreatDoorPkDm
import Derived.Test.YtobpacebpiabcaaGreatDoorCk
import Derived.Test.YtobpacebpiabcaaGreatDoorPkBl
import Derived.Test.YtobpacebpiabcaaGreatDoorPkBl
namespace Go.Proofs.YtobpacebpiabcaaGreatDoor
open Go.RowKit Go.Lib

theorem keeps_mem {l : List (List UInt8)} : ∀ x, x ∈ Lib.compact l → x ∈ l := fun x hx => by
  unfold Lib.compact Lib.compactUpTo at hx
  obtain ⟨j, hj, rfl⟩ := List.mem_map.1 hx
  have hj2 := List.mem_range.1 (List.mem_filter.1 hj).1
  have : l.toArray[j]! = l[j] := by simp [getElem!_pos, hj2]
  rw [this]
  exact List.getElem_mem hj2
theorem mem_keeps {l : List (List UInt8)} : ∀ (j : Nat) (hj : j < l.length), l[j] ∈ Lib.compact l
  | 0, hj => by
    unfold Lib.compact Lib.compactUpTo
    refine List.mem_map.2 ⟨0, List.mem_filter.2 ⟨List.mem_range.2 hj, by simp [Lib.keeps]⟩, by simp [getElem!_pos, hj]⟩
  | j + 1, hj => by
    by_cases h : l[j + 1] = l[j]
    · rw [h]; exact mem_keeps j (by omega)
    · unfold Lib.compact Lib.compactUpTo
      refine List.mem_map.2 ⟨j + 1, List.mem_filter.2 ⟨List.mem_range.2 hj, ?_⟩, by simp [getElem!_pos, hj]⟩
      simp only [Lib.keeps, decide_eq_true_eq]
      right
      have e1 : l.toArray[j + 1]! = l[j + 1] := by simp [getElem!_pos, hj]
      have e2 : l.toArray[j + 1 - 1]! = l[j] := by simp [getElem!_pos, show j < l.length by omega]
      rw [e1, e2]; exact h
theorem marksM_mem (t : Tm) (x : List UInt8) : x ∈ marksM t ↔ x ∈ t.fo.names := by
  unfold marksM sortM
  constructor
  · intro h
    exact List.mem_mergeSort.1 (keeps_mem x h)
  · intro h
    have h2 : x ∈ t.fo.names.mergeSort (fun x y => decide (x ≤ y)) := List.mem_mergeSort.2 h
    obtain ⟨j, hj, e⟩ := List.getElem_of_mem h2
    rw [← e]
    exact mem_keeps j hj
theorem watch_short {t : Tm} (ht : t.ok = true) {log : List Ev} (hd : ∀ i, 0 ≤ dayAt log i) : t.watch log = t.short.watch log := by
  unfold Tm.watch
  exact List.map_congr_left fun i _ => ((short_ok t ht).2.2.2 log hd i).symm
theorem StrV.getC {w : World} {v : Value} {l : List (List UInt8)} (h : StrV w v l) {j : Nat} (hj : j < l.length) : ∃ b off c, v = .slice (some ⟨b, off, none⟩) l.length c ∧ b < w.heap.size ∧ w.cell? ⟨b, off + j, none⟩ = some (.string ⟨l[j].toArray⟩) := by
  obtain ⟨A, c, rfl, _, _, _, hA⟩ := h
  obtain ⟨b, off, rfl, hb, hc⟩ := hA.get (k := j) hj
  exact ⟨b, off, c, rfl, hb, hc⟩
set_option maxRecDepth 100000 in
set_option maxHeartbeats 12800000 in
theorem shorter_any {B0 N0 : Nat} {l : List Nd} {x : List Ev} {u v : Value} {w : World} (hu : NodesV N0 w u l) (hN : N0 ≤ w.heap.size) (hf : NdFit l) (hv : EvV w v x) (hL : LibOk B0 w) : Calls Tryz.prog 9 #[u, v] w (RetW (.bool true) w) := by
  have HS := Lib.hid (show Calls Tryz.prog 25 #[u, .int .i64 30] w (RetTm (Abc 61) w) from some_any hu hN hf 30 (by omega))
  have HH := Lib.hid (show ∀ W, Below w.heap.size w W → Calls Tryz.prog 26 #[v, .int .i64 60] W (RetHist (min x.length 60) W) from fun W hb => history_any (hv.below hb) 60 (by omega))
  have HL := Lib.hid (show ∀ W, Below w.heap.size w W → Calls Tryz.prog 21 #[] W (RetW (.bool true) W) from fun W hb => lives_any B0 W (hL.below hb))
  have HLB := Lib.hid hL
  obtain ⟨A1, m1, c1, rfl⟩ : ∃ A m c, u = .slice A m c := by obtain ⟨A, c, h, _⟩ := hu; exact ⟨A, _, c, h⟩
  obtain ⟨A2, m2, c2, rfl⟩ : ∃ A m c, v = .slice A m c := by obtain ⟨A, c, h, _⟩ := hv; exact ⟨A, _, c, h⟩
  obtain ⟨n, hn⟩ : ∃ n, min x.length 60 = n := ⟨_, rfl⟩
  rw [hn] at HH
  have hn200 : n ≤ 60 := by omega
  clear hu hN hf hv hL hn
  go_enter Tryz.func9, Tryz.ntmps9
  have cs := HS.out
  go_wp2_with fail
  refine cs.mono ?_
  rintro e W4 ⟨t, v4, rfl, htm, hab, hb4⟩
  have HB4 := Lib.hid hb4
  have HT := Lib.hid htm
  have HAB := Lib.hid hab
  obtain ⟨u4, rfl, hk4⟩ := htm
  obtain ⟨A3, m3, c3, rfl, -⟩ := hk4.open'
  have ch := HH.out W4 HB4.out
  clear cs hab hb4 hk4 HS HH
  go_wp2_with fail
  refine ch.mono ?_
  rintro e W5 ⟨log, v5, rfl, hown, hh, hb5⟩
  have HHI := Lib.hid hh
  have HE := Lib.hid hown.evV
  obtain ⟨A5, m5, c5, rfl, hm5⟩ : ∃ A m c, v5 = .slice A m c ∧ m = n := by obtain ⟨A, c, h, _⟩ := HE.out; exact ⟨A, _, c, h, hh.len⟩
  subst hm5
  have HW5 := Lib.hid (HB4.out.trans (hb5.mono HB4.out.size))
  have HT5 := Lib.hid (HT.out.below hb5)
  clear ch hown hb5 hh
  go_upto_region 2 with fail
  obtain ⟨W6, hW6⟩ : ∃ W6, W6 = W5.alloc (.cells #[.int .i64 t.1, .string ⟨t.2.1.toArray⟩, .int .i64 t.2.2.1, .slice A3 m3 c3] 26) := ⟨_, rfl⟩
  have hb6 : Below W5.heap.size W5 W6 := by rw [hW6]; exact (Below.refl _ _).alloc (Nat.le_refl _) _
  have HX6 := Lib.hid (show Blk W6 W5.heap.size #[.int .i64 t.1, .string ⟨t.2.1.toArray⟩, .int .i64 t.2.2.1, .slice A3 m3 c3] 26 by rw [hW6]; exact Blk.new _ _ _)
  rw [← hW6]
  clear hW6
  have HW6 := Lib.hid (HW5.out.trans (hb6.mono HW5.out.size))
  have HT6 := Lib.hid (HT5.out.below hb6)
  have HE6 := Lib.hid (HE.out.below hb6)
  have HOK := Lib.hid (HAB.out.ok (by omega))
  obtain ⟨sok, scn, snm, -⟩ := short_ok t HOK.out
  have HSN := Lib.hid snm
  have HDY := Lib.hid (show ∀ i, 0 ≤ dayAt log i from fun i => by
    by_cases h : i < m5
    · exact (HHI.out.days i h).1
    · unfold dayAt
      rw [List.getD_eq_getElem?_getD, List.getElem?_eq_none (by rw [HHI.out.len]; omega)]
      simp)
  have HWS := Lib.hid (watch_short HOK.out HDY.out)
  have cn := bigshort_any HT6.out HOK.out (HLB.out.below HW6.out)
  have HTN := Lib.hid (show ∀ W, Below W6.heap.size W6 W → Calls Tryz.prog 39 #[.agg #[.int .i64 t.1, .string ⟨t.2.1.toArray⟩, .int .i64 t.2.2.1, .slice A3 m3 c3], .int .i64 64] W (RetNodes t.fo.cnt 64 W) from fun W hb => refnodes_any _ t _ _ W 64 (Nat.lt_succ_self _) (by have h := HAB.out.2.2; rw [fo_cnt] at h; omega) (HT6.out.below hb) (by omega) (by omega))
  have HMK := Lib.hid (show ∀ W, Below W6.heap.size W6 W → Calls Tryz.prog 40 #[.agg #[.int .i64 t.1, .string ⟨t.2.1.toArray⟩, .int .i64 t.2.2.1, .slice A3 m3 c3]] W (RetStrE (marksM t) W) from fun W hb => bigmarks_any (HT6.out.below hb) HOK.out)
  have HTC := Lib.hid HAB.out.2.2
  have HSS := Lib.hid (And.intro sok scn)
  clear hb6 HE HT HT5 HW5 HB4 sok scn snm
  generalize hkk : t.1 = kk at *
  generalize hknm : t.2.1 = knm at *
  generalize hkn : t.2.2.1 = kn at *
  clear hkk hknm hkn
  have k0 := HX6.out.cell 0
  have k1 := HX6.out.cell 1
  have k2 := HX6.out.cell 2
  have k3 := HX6.out.cell 3
  go_wp2_with fail
  refine cn.mono ?_
  rintro e W7 ⟨tq, vq, rfl, htq, hpq, hn7⟩
  obtain ⟨uq, rfl, hkq⟩ := htq
  obtain ⟨A7, m7, c7, rfl, -⟩ := hkq.open'
  rw [← hpq] at HSS HSN HWS
  have HB7 := Lib.hid hn7
  have HKQ := Lib.hid hkq
  clear cn hn7 k0 k1 k2 k3 hkq hpq
  go_upto_region 3 with fail
  obtain ⟨W8, hW8⟩ : ∃ W8, W8 = W7.alloc (.cells #[.int .i64 tq.1, .string ⟨tq.2.1.toArray⟩, .int .i64 tq.2.2.1, .slice A7 m7 c7] 26) := ⟨_, rfl⟩
  have HR8 := Lib.hid (show Below W7.heap.size W7 W8 by rw [hW8]; exact (Below.refl _ _).alloc (Nat.le_refl _) _)
  have HY8 := Lib.hid (show Blk W8 W7.heap.size #[.int .i64 tq.1, .string ⟨tq.2.1.toArray⟩, .int .i64 tq.2.2.1, .slice A7 m7 c7] 26 by rw [hW8]; exact Blk.new _ _ _)
  rw [← hW8]
  clear hW8
  have HB8 := Lib.hid (HB7.out.trans (HR8.out.mono HB7.out.size))
  have HX8 := Lib.hid (HX6.out.below HB8.out)
  have HW8 := Lib.hid (HW6.out.trans (HB8.out.mono HW6.out.size))
  have HTU := Lib.hid (show TmV _ W8 (.agg #[.int .i64 tq.1, .string ⟨tq.2.1.toArray⟩, .int .i64 tq.2.2.1, .slice A7 m7 c7]) tq from ⟨_, rfl, HKQ.out.below HR8.out⟩)
  have hfq : tq.fo.fit := Fo.shp_fit _ (by have h := Tm.ok_shp HSS.out.1; rw [fo_shp, h.1, h.2.1]; rfl)
  have hcq : tq.fo.cnt ≤ 61 := Nat.le_trans HSS.out.2 HTC.out
  have HVU := Lib.hid (show ∀ W, Below W8.heap.size W8 W → Calls Tryz.prog 20 #[.agg #[.int .i64 tq.1, .string ⟨tq.2.1.toArray⟩, .int .i64 tq.2.2.1, .slice A7 m7 c7]] W (RetW (.bool true) W) from fun W hb => by
    have h := refvalid_any (HTU.out.below hb) hfq (by omega)
    rw [HSS.out.1] at h; exact h)
  have HNU := Lib.hid (show ∀ W, Below W8.heap.size W8 W → Calls Tryz.prog 39 #[.agg #[.int .i64 tq.1, .string ⟨tq.2.1.toArray⟩, .int .i64 tq.2.2.1, .slice A7 m7 c7], .int .i64 64] W (RetNodes tq.fo.cnt 64 W) from fun W hb => refnodes_any _ tq _ _ W 64 (Nat.lt_succ_self _) (by rw [fo_cnt] at hcq; omega) (HTU.out.below hb) (by omega) (by omega))
  have HAL := Lib.hid (show ∀ W, Below W8.heap.size W8 W → Calls Tryz.prog 35 #[.agg #[.int .i64 kk, .string ⟨knm.toArray⟩, .int .i64 kn, .slice A3 m3 c3], .agg #[.int .i64 tq.1, .string ⟨tq.2.1.toArray⟩, .int .i64 tq.2.2.1, .slice A7 m7 c7], .slice A5 m5 c5] W (RetW (.bool true) W) from fun W hb => by
    have h := alike_any (HT6.out.below (HB8.out.trans (hb.mono HB8.out.size))) (HTU.out.below hb) (HE6.out.below (HB8.out.trans (hb.mono HB8.out.size))) (HHI.out.fit (by omega)) (HHI.out.logB (by omega)) HOK.out HSS.out.1
    rw [HWS.out, decide_eq_true rfl] at h; exact h)
  have HMU := Lib.hid (show ∀ W, Below W8.heap.size W8 W → Calls Tryz.prog 40 #[.agg #[.int .i64 tq.1, .string ⟨tq.2.1.toArray⟩, .int .i64 tq.2.2.1, .slice A7 m7 c7]] W (RetStrE (marksM tq) W) from fun W hb => bigmarks_any (HTU.out.below hb) HSS.out.1)
  have HSUB := Lib.hid (show ∀ x ∈ marksM tq, hasB (marksM t) x = true from fun x hx => hasB_mem.2 ((marksM_mem t x).2 (HSN.out x ((marksM_mem tq x).1 hx))))
  have HCC := Lib.hid (show (tq.fo.cnt : Int) ≤ (t.fo.cnt : Int) ∧ (t.fo.cnt : Int) ≤ 64 by have h1 := HSS.out.2; have h2 := HTC.out; omega)
  clear hfq hcq
  generalize hqk : tq.1 = qk at *
  generalize hqnm : tq.2.1 = qnm at *
  generalize hqn : tq.2.2.1 = qn at *
  clear hqk hqnm hqn
  generalize marksM tq = mq at *
  generalize marksM t = mt at *
  generalize tq.fo.cnt = cq at *
  generalize t.fo.cnt = ct at *
  have HF0 := Lib.hid (And.intro (HY8.out.cell 0) HY8.out.lt)
  have HF1 := Lib.hid (And.intro (HY8.out.cell 1) HY8.out.lt)
  have HF2 := Lib.hid (And.intro (HY8.out.cell 2) HY8.out.lt)
  have HF3 := Lib.hid (And.intro (HY8.out.cell 3) HY8.out.lt)
  have HF4 := Lib.hid (And.intro (HX8.out.cell 0) HX8.out.lt)
  have HF5 := Lib.hid (And.intro (HX8.out.cell 1) HX8.out.lt)
  have HF6 := Lib.hid (And.intro (HX8.out.cell 2) HX8.out.lt)
  have HF7 := Lib.hid (And.intro (HX8.out.cell 3) HX8.out.lt)
  refine Lex.wp_region_lex (fun w' => Below W8.heap.size W8 w') (fun _ => true)
    [(0, true), (1, true), (2, true), (3, true), (4, false), (5, true), (6, true), (7, true), (8, true), (10, true), (9, false), (11, false), (12, true), (13, true), (14, true), (15, true), (16, true), (17, true), (18, false), (19, true), (20, true), (21, true), (22, false), (23, true), (24, true)]
    (by kernel_rfl) (by kernel_rfl) (by kernel_rfl) (by kernel_rfl) ⟨rfl, rfl, rfl, Nat.le_refl _, fun _ _ => rfl⟩ ?_
  have hb0 : Below W8.heap.size W8 W8.drew := ⟨rfl, rfl, rfl, Nat.le_refl _, fun _ _ => rfl⟩
  have hw0 : Below w.heap.size w W8.drew := ⟨HW8.out.os, HW8.out.tape, HW8.out.output, HW8.out.size, HW8.out.block⟩
  generalize hV0 : W8.drew = V0 at *
  clear hV0
  iterate 4 (refine Lex.lex_take (v := ?_) rfl rfl (by rfl) (fun _ hS => ?_) ?_; rotate_left 1; (focus (have g0 := (hS.cell HF0.out.2).trans HF0.out.1; have g1 := (hS.cell HF1.out.2).trans HF1.out.1; have g2 := (hS.cell HF2.out.2).trans HF2.out.1; have g3 := (hS.cell HF3.out.2).trans HF3.out.1; have g4 := (hS.cell HF4.out.2).trans HF4.out.1; have g5 := (hS.cell HF5.out.2).trans HF5.out.1; have g6 := (hS.cell HF6.out.2).trans HF6.out.1; have g7 := (hS.cell HF7.out.2).trans HF7.out.1; clear hS; go_simp; with_reducible rfl)); simp only [List.setIfInBounds_toArray, List.set_cons_zero, List.set_cons_succ])
  refine Lex.lex_do rfl ?_
  have cc := HVU.out V0 hb0
  go_wp2_with fail
  refine cc.mono ?_
  rintro e V1 ⟨rfl, hn1⟩
  have hb1 := hb0.trans (hn1.mono hb0.size)
  have hw1 := hw0.trans (hn1.mono hw0.size)
  clear cc hb0 hw0
  clear hn1
  go_wp2_with fail
  refine Lex.lexQ_normal (fun _ => hb1) ?_
  iterate 5 (refine Lex.lex_take (v := ?_) rfl rfl (by rfl) (fun _ hS => ?_) ?_; rotate_left 1; (focus (have g0 := (hS.cell HF0.out.2).trans HF0.out.1; have g1 := (hS.cell HF1.out.2).trans HF1.out.1; have g2 := (hS.cell HF2.out.2).trans HF2.out.1; have g3 := (hS.cell HF3.out.2).trans HF3.out.1; have g4 := (hS.cell HF4.out.2).trans HF4.out.1; have g5 := (hS.cell HF5.out.2).trans HF5.out.1; have g6 := (hS.cell HF6.out.2).trans HF6.out.1; have g7 := (hS.cell HF7.out.2).trans HF7.out.1; clear hS; go_simp; with_reducible rfl)); simp only [List.setIfInBounds_toArray, List.set_cons_zero, List.set_cons_succ])
  refine Lex.lex_do rfl ?_
  have cc := HNU.out V1 hb1
  go_wp2_with fail
  refine cc.mono ?_
  rintro e V2 ⟨r1, rfl, -, hr1, -, -, hn2⟩
  have hb2 := hb1.trans (hn2.mono hb1.size)
  have hw2 := hw1.trans (hn2.mono hw1.size)
  clear cc hb1 hw1
  have HR1 := Lib.hid hr1
  clear hr1
  clear hn2
  go_wp2_with fail
  refine Lex.lexQ_normal (fun _ => hb2) ?_
  refine Lex.lex_do rfl ?_
  have cc := HTN.out V2 (HB8.out.trans (hb2.mono HB8.out.size))
  go_wp2_with fail
  refine cc.mono ?_
  rintro e V3 ⟨r2, rfl, -, -, hr2, -, hn3⟩
  have hb3 := hb2.trans (hn3.mono hb2.size)
  have hw3 := hw2.trans (hn3.mono hw2.size)
  clear cc hb2 hw2
  have d2 : decide (r2 < r1) = false := decide_eq_false (by have h := hr2 HCC.out.2; have h2 := HCC.out.1; have h3 := HR1.out; omega)
  clear hr2
  clear hn3
  go_wp2_with fail
  refine Lex.lexQ_normal (fun _ => hb3) ?_
  iterate 6 (refine Lex.lex_take (v := ?_) rfl rfl (by rfl) (fun _ hS => ?_) ?_; rotate_left 1; (focus (have g0 := (hS.cell HF0.out.2).trans HF0.out.1; have g1 := (hS.cell HF1.out.2).trans HF1.out.1; have g2 := (hS.cell HF2.out.2).trans HF2.out.1; have g3 := (hS.cell HF3.out.2).trans HF3.out.1; have g4 := (hS.cell HF4.out.2).trans HF4.out.1; have g5 := (hS.cell HF5.out.2).trans HF5.out.1; have g6 := (hS.cell HF6.out.2).trans HF6.out.1; have g7 := (hS.cell HF7.out.2).trans HF7.out.1; clear hS; go_simp; with_reducible rfl)); simp only [List.setIfInBounds_toArray, List.set_cons_zero, List.set_cons_succ])
  refine Lex.lex_do rfl ?_
  have cc := HAL.out V3 hb3
  go_wp2_with fail
  refine cc.mono ?_
  rintro e V4 ⟨rfl, hn4⟩
  have hb4 := hb3.trans (hn4.mono hb3.size)
  have hw4 := hw3.trans (hn4.mono hw3.size)
  clear cc hb3 hw3
  clear hn4
  go_wp2_with fail
  refine Lex.lexQ_normal (fun _ => hb4) ?_
  iterate 3 (refine Lex.lex_take (v := ?_) rfl rfl (by rfl) (fun _ hS => ?_) ?_; rotate_left 1; (focus (have g0 := (hS.cell HF0.out.2).trans HF0.out.1; have g1 := (hS.cell HF1.out.2).trans HF1.out.1; have g2 := (hS.cell HF2.out.2).trans HF2.out.1; have g3 := (hS.cell HF3.out.2).trans HF3.out.1; have g4 := (hS.cell HF4.out.2).trans HF4.out.1; have g5 := (hS.cell HF5.out.2).trans HF5.out.1; have g6 := (hS.cell HF6.out.2).trans HF6.out.1; have g7 := (hS.cell HF7.out.2).trans HF7.out.1; clear hS; go_simp; with_reducible rfl)); simp only [List.setIfInBounds_toArray, List.set_cons_zero, List.set_cons_succ])
  refine Lex.lex_do rfl ?_
  have cc := HL.out V4 hw4
  go_wp2_with fail
  refine cc.mono ?_
  rintro e V5 ⟨rfl, hn5⟩
  have hb5 := hb4.trans (hn5.mono hb4.size)
  have hw5 := hw4.trans (hn5.mono hw4.size)
  clear cc hb4 hw4
  clear hn5
  go_wp2_with fail
  refine Lex.lexQ_normal (fun _ => hb5) ?_
  iterate 2 (refine Lex.lex_take (v := ?_) rfl rfl (by rfl) (fun _ hS => ?_) ?_; rotate_left 1; (focus (have g0 := (hS.cell HF0.out.2).trans HF0.out.1; have g1 := (hS.cell HF1.out.2).trans HF1.out.1; have g2 := (hS.cell HF2.out.2).trans HF2.out.1; have g3 := (hS.cell HF3.out.2).trans HF3.out.1; have g4 := (hS.cell HF4.out.2).trans HF4.out.1; have g5 := (hS.cell HF5.out.2).trans HF5.out.1; have g6 := (hS.cell HF6.out.2).trans HF6.out.1; have g7 := (hS.cell HF7.out.2).trans HF7.out.1; clear hS; go_simp; with_reducible rfl)); simp only [List.setIfInBounds_toArray, List.set_cons_zero, List.set_cons_succ])
  refine Lex.lex_nil ?_
  have HB9 := Lib.hid hb5
  have HW9 := Lib.hid hw5
  clear hb5 hw5 d2
  have hx9 := HX8.out.below HB9.out
  have x0 := hx9.cell 0
  have x1 := hx9.cell 1
  have x2 := hx9.cell 2
  have x3 := hx9.cell 3
  clear hx9
  have cm := HMK.out V5 (HB8.out.trans (HB9.out.mono HB8.out.size))
  go_wp2_with fail
  refine cm.mono ?_
  rintro e W10 ⟨v10, rfl, ho10, hn10⟩
  obtain ⟨A10, c10, rfl⟩ := ho10.form
  have HO10 := Lib.hid ho10.strV
  have HB10 := Lib.hid (HB9.out.trans (hn10.mono HB9.out.size))
  have HW10 := Lib.hid (HW9.out.trans (hn10.mono HW9.out.size))
  clear cm ho10 hn10 x0 x1 x2 x3
  have hy10 := HY8.out.below HB10.out
  have x0 := hy10.cell 0
  have x1 := hy10.cell 1
  have x2 := hy10.cell 2
  have x3 := hy10.cell 3
  clear hy10
  have cm := HMU.out W10 HB10.out
  go_wp2_with fail
  refine cm.mono ?_
  rintro e W11 ⟨v11, rfl, ho11, hn11⟩
  obtain ⟨A11, c11, rfl⟩ := ho11.form
  have HO11 := Lib.hid ho11.strV
  have HO10' := Lib.hid (HO10.out.below hn11)
  have HW11 := Lib.hid (HW10.out.trans (hn11.mono HW10.out.size))
  clear cm ho11 hn11 x0 x1 x2 x3
  obtain ⟨q, hq⟩ : ∃ q, mq.length = q := ⟨_, rfl⟩
  have HQ := Lib.hid hq
  rw [hq]
  have HGT := Lib.hid (show ∀ j, j < q → ∃ b off c x, Value.slice A11 q c11 = .slice (some ⟨b, off, none⟩) q c ∧ W11.cell? ⟨b, off + j, none⟩ = some (.string ⟨x.toArray⟩) ∧ x ∈ mq from fun j hj => by
    obtain ⟨b, off, c, h1, h2, h3⟩ := HO11.out.getC (j := j) (by omega)
    rw [hq] at h1
    exact ⟨b, off, c, _, h1, h3, List.getElem_mem _⟩)
  have HHS := Lib.hid (show ∀ x ∈ mq, Calls Tryz.prog 41 #[.slice A10 mt.length c10, .string ⟨x.toArray⟩] W11 (RetV (.bool true) W11) from fun x hx => by
    have h := refhas_any x HO10'.out
    rw [HSUB.out x hx] at h; exact h)
  have hq64 : q ≤ 9223372036854775807 := by
    obtain ⟨A, c, _, h1, h2, _⟩ := HO11.out
    unfold maxLen at h2; omega
  clear hq
  generalize mt.length = p at *
  go_wp2
  go_loopw [13] (fun i wr => ∃ j : Nat, j ≤ q ∧ i = .int .i64 j ∧ wr = W11) (fun i _ => q - (intOf i).toNat)
  case atStart => exact ⟨0, Nat.zero_le _, rfl, rfl⟩
  case round =>
    obtain ⟨j, hj, rfl, rfl⟩ := hrel
    by_cases hlt : j < q
    · obtain ⟨b, off, c, y, he, hc, hm⟩ := HGT.out j hlt
      injection he with e1 _ e3
      subst e1
      have ch := HHS.out y hm
      have hjm : (j : Int) < (q : Int) := by omega
      have hj0 : (0 : Int) ≤ (j : Int) := by omega
      clear hm e3 HGT HHS
      go_wp2_with fail
      refine ch.mono ?_
      rintro e w' ⟨rfl, rfl⟩
      clear ch hc
      go_wp2
      go_roundw
      case rel => exact ⟨j + 1, by omega, by go_num, trivial⟩
      case measure => simp [intOf]; omega
    · obtain rfl : q = j := by omega
      clear HGT HHS
      go_wp2
      go_ret
      exact ⟨rfl, HW11.out⟩
end Go.Proofs.YtobpacebpiabcaaGreatDoor
