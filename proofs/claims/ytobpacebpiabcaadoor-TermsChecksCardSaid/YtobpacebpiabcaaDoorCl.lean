/- TermsChecks: what the law computes (printed by expand.py). -/
import Derived.Test.YtobpacebpiabcaaDoorCk
import Derived.Test.YtobpacebpiabcaaDoorPkBs
import Derived.Test.YtobpacebpiabcaaDoorBn
namespace Go.Proofs.YtobpacebpiabcaaDoor
open Go.RowKit Go.Lib

set_option maxHeartbeats 6400000 in
theorem checks_any {B0 N0 : Nat} {l : List Nd} {log : List Ev} {u v : Value} {w : World} (hu : NodesV N0 w u l) (hN : N0 ≤ w.heap.size) (hf : NdFit l) (hv : EvV w v log) (hlf : DaysFit log) (hL : LibOk B0 w) : Calls Tryd.prog 5 #[u, v] w (RetW (.bool true) w) := by
  have cb := bigbuild_any hu hN hf
  have HF := Lib.hid (show ∀ W, Below w.heap.size w W → Calls Tryd.prog 16 #[v, .int .i64 60] W (RetEvO (fewM log 60) W) from fun W hb => few_any (hv.below hb) 60 (by omega))
  have HL := Lib.hid (show ∀ W, Below w.heap.size w W → Calls Tryd.prog 13 #[] W (RetW (.bool true) W) from fun W hb => lives_any B0 W (hL.below hb))
  have HEF := Lib.hid (fewM_fit hlf 60)
  obtain ⟨A1, m1, c1, rfl⟩ : ∃ A m c, u = .slice A m c := by obtain ⟨A, c, h, _⟩ := hu; exact ⟨A, _, c, h⟩
  obtain ⟨A2, m2, c2, rfl⟩ : ∃ A m c, v = .slice A m c := by obtain ⟨A, c, h, _⟩ := hv; exact ⟨A, _, c, h⟩
  clear hu hN hf hv hlf hL
  generalize fewM log 60 = lg at *
  go_enter Tryd.func5, Tryd.ntmps5
  go_wp2_with fail
  refine cb.mono ?_
  rintro e W4 ⟨t, v4, rfl, htm, hsm, hb4⟩
  have HB4 := Lib.hid hb4
  have HT := Lib.hid htm
  have HSM := Lib.hid hsm
  obtain ⟨u4, rfl, hk4⟩ := htm
  obtain ⟨A3, m3, c3, rfl, -⟩ := hk4.open'
  have cf := HF.out W4 HB4.out
  clear cb hsm hb4 hk4
  go_wp2_with fail
  refine cf.mono ?_
  rintro e W5 ⟨v5, rfl, hown, hb5⟩
  have HE := Lib.hid (hown.evV)
  obtain ⟨A5, m5, c5, rfl⟩ : ∃ A m c, v5 = .slice A m c := by obtain ⟨A, c, h, _⟩ := HE.out; exact ⟨A, _, c, h⟩
  have HW5 := Lib.hid (HB4.out.trans (hb5.mono HB4.out.size))
  have HT5 := Lib.hid (HT.out.below hb5)
  clear cf hown hb5
  go_upto_region 2 with fail
  obtain ⟨W6, hW6⟩ : ∃ W6, W6 = W5.alloc (.cells #[.int .i64 t.1, .string ⟨t.2.1.toArray⟩, .int .i64 t.2.2.1, .slice A3 m3 c3] 26) := ⟨_, rfl⟩
  have hb6 : Below W5.heap.size W5 W6 := by rw [hW6]; exact (Below.refl _ _).alloc (Nat.le_refl _) _
  have HX := Lib.hid (show Blk W6 W5.heap.size #[.int .i64 t.1, .string ⟨t.2.1.toArray⟩, .int .i64 t.2.2.1, .slice A3 m3 c3] 26 by rw [hW6]; exact Blk.new _ _ _)
  rw [← hW6]
  clear hW6
  have HW6 := Lib.hid (HW5.out.trans (hb6.mono HW5.out.size))
  have HT6 := Lib.hid (HT5.out.below hb6)
  have HE6 := Lib.hid (HE.out.below hb6)
  have HC0 := Lib.hid (And.intro (HX.out.cell 0) HX.out.lt)
  have HC1 := Lib.hid (And.intro (HX.out.cell 1) HX.out.lt)
  have HC2 := Lib.hid (And.intro (HX.out.cell 2) HX.out.lt)
  have HC3 := Lib.hid (And.intro (HX.out.cell 3) HX.out.lt)
  have HK1 := Lib.hid (show ∀ W, Below W6.heap.size W6 W → Calls Tryd.prog 20 #[.agg #[.int .i64 t.1, .string ⟨t.2.1.toArray⟩, .int .i64 t.2.2.1, .slice A3 m3 c3]] W (RetW (.int .i64 (okE t.ok)) W) from fun W hb => check_any (HT6.out.below hb) HSM.out.1)
  have HK2 := Lib.hid (show ∀ W, Below W6.heap.size W6 W → Calls Tryd.prog 22 #[.agg #[.int .i64 t.1, .string ⟨t.2.1.toArray⟩, .int .i64 t.2.2.1, .slice A3 m3 c3]] W (RetW (.bool t.ok) W) from fun W hb => refvalid_any (HT6.out.below hb) HSM.out.1 (by have := HSM.out.2; omega))
  have HK3 := Lib.hid (show ∀ W, Below W6.heap.size W6 W → Calls Tryd.prog 23 #[.slice A5 m5 c5] W (RetW (.int .i64 (logN lg)) W) from fun W hb => checklog_any (HE6.out.below hb) HEF.out)
  have HK4 := Lib.hid (show ∀ W, Below W6.heap.size W6 W → Calls Tryd.prog 24 #[.slice A5 m5 c5] W (RetW (.bool (logB lg)) W) from fun W hb => lawvalid_any (HE6.out.below hb) HEF.out)
  have HN := Lib.hid (show okE (logB lg) = logN lg from rfl)
  generalize t.ok = ok at *
  generalize logB lg = lb at *
  generalize logN lg = ln at *
  generalize t.1 = kk at *
  generalize t.2.1 = knm at *
  generalize t.2.2.1 = kn at *
  clear HT HT5 HT6 HE HE6 HX HW5 HB4 HF HEF hb6
  have e1 : (okE ok == okE ok) = true := by simp
  have e2 : (ln == okE lb) = true := by rw [HN.out]; simp
  refine Lex.wp_region_lex (fun w' => Below W6.heap.size W6 w') (fun _ => true)
    [(0, true), (2, true), (1, false), (3, false), (4, false), (5, true), (6, true), (7, true), (9, true), (8, false), (10, false), (11, false), (12, true), (13, true), (14, true), (15, false), (16, true), (17, false)]
    (by kernel_rfl) (by kernel_rfl) (by kernel_rfl) (by kernel_rfl) ⟨rfl, rfl, rfl, Nat.le_refl _, fun _ _ => rfl⟩ ?_
  have hb0 : Below W6.heap.size W6 W6.drew := ⟨rfl, rfl, rfl, Nat.le_refl _, fun _ _ => rfl⟩
  have hw0 : Below w.heap.size w W6.drew := ⟨HW6.out.os, HW6.out.tape, HW6.out.output, HW6.out.size, HW6.out.block⟩
  generalize hV0 : W6.drew = V0 at *
  clear hV0
  iterate 2 (refine Lex.lex_take (v := ?_) rfl rfl (by rfl) (fun _ hS => ?_) ?_; rotate_left 1; (focus (have g0 := (hS.cell HC0.out.2).trans HC0.out.1; have g1 := (hS.cell HC1.out.2).trans HC1.out.1; have g2 := (hS.cell HC2.out.2).trans HC2.out.1; have g3 := (hS.cell HC3.out.2).trans HC3.out.1; clear hS; go_simp; with_reducible rfl)); simp only [List.setIfInBounds_toArray, List.set_cons_zero, List.set_cons_succ])
  refine Lex.lex_do rfl ?_
  have cc := HK1.out V0 hb0
  go_wp2_with fail
  refine cc.mono ?_
  rintro e V1 ⟨rfl, hn1⟩
  have hb1 := hb0.trans (hn1.mono hb0.size)
  have hw1 := hw0.trans (hn1.mono hw0.size)
  clear cc hb0 hw0
  clear hn1
  go_wp2_with fail
  refine Lex.lexQ_normal (fun _ => hb1) ?_
  refine Lex.lex_do rfl ?_
  have cc := HK2.out V1 hb1
  go_wp2_with fail
  refine cc.mono ?_
  rintro e V2 ⟨rfl, hn2⟩
  have hb2 := hb1.trans (hn2.mono hb1.size)
  have hw2 := hw1.trans (hn2.mono hw1.size)
  clear cc hb1 hw1
  clear hn2
  go_wp2_with fail
  refine Lex.lexQ_normal (fun _ => hb2) ?_
  refine Lex.lex_do rfl ?_
  have cc := bad_any ok V2
  go_wp2_with fail
  refine cc.mono ?_
  rintro e V3 ⟨rfl, rfl⟩
  clear cc
  go_wp2_with fail
  refine Lex.lexQ_normal (fun _ => hb2) ?_
  iterate 4 (refine Lex.lex_take (v := ?_) rfl rfl (by rfl) (fun _ hS => ?_) ?_; rotate_left 1; (focus (have g0 := (hS.cell HC0.out.2).trans HC0.out.1; have g1 := (hS.cell HC1.out.2).trans HC1.out.1; have g2 := (hS.cell HC2.out.2).trans HC2.out.1; have g3 := (hS.cell HC3.out.2).trans HC3.out.1; clear hS; go_simp; with_reducible rfl)); simp only [List.setIfInBounds_toArray, List.set_cons_zero, List.set_cons_succ])
  refine Lex.lex_do rfl ?_
  have cc := HK3.out V2 hb2
  go_wp2_with fail
  refine cc.mono ?_
  rintro e V3 ⟨rfl, hn3⟩
  have hb3 := hb2.trans (hn3.mono hb2.size)
  have hw3 := hw2.trans (hn3.mono hw2.size)
  clear cc hb2 hw2
  clear hn3
  go_wp2_with fail
  refine Lex.lexQ_normal (fun _ => hb3) ?_
  refine Lex.lex_do rfl ?_
  have cc := HK4.out V3 hb3
  go_wp2_with fail
  refine cc.mono ?_
  rintro e V4 ⟨rfl, hn4⟩
  have hb4 := hb3.trans (hn4.mono hb3.size)
  have hw4 := hw3.trans (hn4.mono hw3.size)
  clear cc hb3 hw3
  clear hn4
  go_wp2_with fail
  refine Lex.lexQ_normal (fun _ => hb4) ?_
  refine Lex.lex_do rfl ?_
  have cc := bad_any lb V4
  go_wp2_with fail
  refine cc.mono ?_
  rintro e V5 ⟨rfl, rfl⟩
  clear cc
  go_wp2_with fail
  refine Lex.lexQ_normal (fun _ => hb4) ?_
  iterate 3 (refine Lex.lex_take (v := ?_) rfl rfl (by rfl) (fun _ hS => ?_) ?_; rotate_left 1; (focus (have g0 := (hS.cell HC0.out.2).trans HC0.out.1; have g1 := (hS.cell HC1.out.2).trans HC1.out.1; have g2 := (hS.cell HC2.out.2).trans HC2.out.1; have g3 := (hS.cell HC3.out.2).trans HC3.out.1; clear hS; go_simp; with_reducible rfl)); simp only [List.setIfInBounds_toArray, List.set_cons_zero, List.set_cons_succ])
  refine Lex.lex_do rfl ?_
  have cc := HL.out V4 hw4
  go_wp2_with fail
  refine cc.mono ?_
  rintro e V5 ⟨rfl, hn5⟩
  have hb5 := hb4.trans (hn5.mono hb4.size)
  have hw5 := hw4.trans (hn5.mono hw4.size)
  clear cc hb4 hw4
  clear hn5
  go_wp2_with fail
  refine Lex.lexQ_normal (fun _ => hb5) ?_
  refine Lex.lex_take (v := ?_) rfl rfl (by rfl) (fun _ hS => ?_) ?_; rotate_left 1; (focus (have g0 := (hS.cell HC0.out.2).trans HC0.out.1; have g1 := (hS.cell HC1.out.2).trans HC1.out.1; have g2 := (hS.cell HC2.out.2).trans HC2.out.1; have g3 := (hS.cell HC3.out.2).trans HC3.out.1; clear hS; go_simp; with_reducible rfl)); simp only [List.setIfInBounds_toArray, List.set_cons_zero, List.set_cons_succ]
  refine Lex.lex_do rfl ?_
  go_wp2_with fail
  refine Lex.lexQ_normal (fun _ => hb5) ?_
  refine Lex.lex_nil ?_
  go_wp2
  go_ret
  exact ⟨rfl, by assumption⟩
end Go.Proofs.YtobpacebpiabcaaDoor
