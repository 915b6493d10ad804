/- TermsDays: what the law computes (printed by expand.py). -/
import Derived.Test.YtobpacebpiabcaaDoorPkDm
import Derived.Test.YtobpacebpiabcaaDoorPkDd
import Derived.Test.YtobpacebpiabcaaDoorPkRf
namespace Go.Proofs.YtobpacebpiabcaaDoor
open Go.RowKit Go.Lib

/-- What one returns, cell by cell. -/
def RetOneW (t : Tm) (w : World) (e : Ending) (w' : World) : Prop := ∃ A c, e = .returned (.agg #[.int .i64 10, .string ⟨#[]⟩, .int .i64 0, .slice A 1 c]) ∧ KidsV (fun _ => True) w' (.slice A 1 c) t.fo ∧ Below w.heap.size w w'
theorem onew_any {S : Nat → Prop} {w : World} {v : Value} {t : Tm} (h : TmV S w v t) : Calls Tryd.prog 18 #[.int .i64 10, v] w (RetOneW t w) := by
  refine (tone_any 10 h).mono ?_
  rintro e w' ⟨v, rfl, ⟨u, rfl, hk⟩, hb⟩
  obtain ⟨A, c, rfl, h2⟩ := hk
  exact ⟨A, c, rfl, ⟨A, c, rfl, h2.1, h2.2.1, h2.2.2.1, h2.2.2.2.mono (fun _ _ _ => trivial)⟩, hb⟩
set_option maxRecDepth 100000 in
set_option maxHeartbeats 12800000 in
theorem days_any {B0 N0 : Nat} {l : List Nd} {x : List Ev} {u v : Value} {w : World} (hu : NodesV N0 w u l) (hN : N0 ≤ w.heap.size) (hf : NdFit l) (hv : EvV w v x) (p q : Int) (hL : LibOk B0 w) : Calls Tryd.prog 4 #[u, v, .agg #[.int .i64 p, .int .i64 q]] w (RetW (.bool true) w) := by
  have HS := Lib.hid (show ∀ W, Below w.heap.size w W → Calls Tryd.prog 10 #[u, .int .i64 20] W (RetTm (Abc 41) W) from fun W hb => some_any (hu.below hN hb) (Nat.le_trans hN hb.size) hf 20 (by omega))
  have HH := Lib.hid (show ∀ W, Below w.heap.size w W → Calls Tryd.prog 11 #[v, .int .i64 60] W (RetHist (min x.length 60) W) from fun W hb => history_any (hv.below hb) 60 (by omega))
  have HL := Lib.hid (show ∀ W, Below w.heap.size w W → Calls Tryd.prog 13 #[] W (RetW (.bool true) W) from fun W hb => lives_any B0 W (hL.below hb))
  obtain ⟨A1, m1, c1, rfl⟩ : ∃ A m c, u = .slice A m c := by obtain ⟨A, c, h, _⟩ := hu; exact ⟨A, _, c, h⟩
  obtain ⟨A2, m2, c2, rfl⟩ : ∃ A m c, v = .slice A m c := by obtain ⟨A, c, h, _⟩ := hv; exact ⟨A, _, c, h⟩
  obtain ⟨n, hn⟩ : ∃ n, min x.length 60 = n := ⟨_, rfl⟩
  rw [hn] at HH
  have hn60 : n ≤ 60 := by omega
  clear hu hN hf hv hL hn
  obtain ⟨W1, hW1⟩ : ∃ W1, W1 = w.alloc (.cells #[.int .i64 p, .int .i64 q] 41) := ⟨_, rfl⟩
  have HB1 := Lib.hid (show Below w.heap.size w W1 by rw [hW1]; exact (Below.refl _ _).alloc (Nat.le_refl _) _)
  have HY1 := Lib.hid (show Blk W1 w.heap.size #[.int .i64 p, .int .i64 q] 41 by rw [hW1]; exact Blk.new _ _ _)
  go_enter Tryd.func4, Tryd.ntmps4
  go_upto_region 1 with fail
  rw [← hW1]
  clear hW1
  have cs := HS.out W1 HB1.out
  go_wp2_with fail
  refine cs.mono ?_
  rintro e W4 ⟨t, v4, rfl, htm, hab, hb4⟩
  have HB4 := Lib.hid (HB1.out.trans (hb4.mono HB1.out.size))
  have HT := Lib.hid htm
  have HAB := Lib.hid hab
  have HY4 := Lib.hid (HY1.out.below hb4)
  obtain ⟨u4, rfl, hk4⟩ := htm
  obtain ⟨A3, m3, c3, rfl, -⟩ := hk4.open'
  have ch := HH.out W4 HB4.out
  clear cs hab hb4 hk4
  go_wp2_with fail
  refine ch.mono ?_
  rintro e W5 ⟨log, v5, rfl, hown, hh, hb5⟩
  have HHI := Lib.hid hh
  have HE := Lib.hid hown.evV
  obtain ⟨A5, m5, c5, rfl, hm5⟩ : ∃ A m c, v5 = .slice A m c ∧ m = n := by obtain ⟨A, c, h, _⟩ := HE.out; exact ⟨A, _, c, h, hh.len⟩
  subst hm5
  have HW5 := Lib.hid (HB4.out.trans (hb5.mono HB4.out.size))
  have HT5 := Lib.hid (HT.out.below hb5)
  have HY5 := Lib.hid (HY4.out.below hb5)
  clear ch hown hb5 hh
  go_upto_region 2 with fail
  obtain ⟨W6, hW6⟩ : ∃ W6, W6 = W5.alloc (.cells #[.int .i64 t.1, .string ⟨t.2.1.toArray⟩, .int .i64 t.2.2.1, .slice A3 m3 c3] 26) := ⟨_, rfl⟩
  have hb6 : Below W5.heap.size W5 W6 := by rw [hW6]; exact (Below.refl _ _).alloc (Nat.le_refl _) _
  have HX6 := Lib.hid (show Blk W6 W5.heap.size #[.int .i64 t.1, .string ⟨t.2.1.toArray⟩, .int .i64 t.2.2.1, .slice A3 m3 c3] 26 by rw [hW6]; exact Blk.new _ _ _)
  rw [← hW6]
  clear hW6
  have HW6 := Lib.hid (HW5.out.trans (hb6.mono HW5.out.size))
  have HT6 := Lib.hid (HT5.out.below hb6)
  have HE6 := Lib.hid (HE.out.below hb6)
  have HY6 := Lib.hid (HY5.out.below hb6)
  have cf := few_any HE6.out 60 (by omega)
  rw [HHI.out.few hn60 (by omega)] at cf
  clear hb6 HE HT HT5 HY5 HW5 HB4 HY4 HY1
  go_wp2_with fail
  refine cf.mono ?_
  rintro e W7 ⟨v7, rfl, hown7, hb7⟩
  have HO7 := Lib.hid hown7
  have HB7 := Lib.hid hb7
  obtain ⟨A7, m7, c7, rfl, hm7⟩ : ∃ A m c, v7 = .slice A m c ∧ m = m5 := by obtain ⟨A, c, h, _⟩ := hown7.evV; exact ⟨A, _, c, h, HHI.out.len⟩
  subst hm7
  clear cf hown7 hb7
  obtain ⟨cc, hcc, hcc2⟩ := and_le p 65535 (by omega)
  have hcc' : bits .and .i64 p 65535 = (cc : Int) := hcc
  have HLEN := Lib.hid HHI.out.len
  clear hcc
  go_wp2
  go_loopw [10] (fun i wr => ∃ k : Nat, k ≤ m7 ∧ i = .int .i64 k ∧ OwnEv wr W6.heap.size (.slice A7 m7 c7) (mapTo (latE cc) log k) ∧ Below W6.heap.size W6 wr) (fun i _ => m7 - (intOf i).toNat)
  case atStart => exact ⟨0, Nat.zero_le _, rfl, by rw [mapTo_zero]; exact HO7.out, HB7.out⟩
  case round =>
    clear HO7 HB7
    obtain ⟨k, hk, rfl, hown, hbw⟩ := hrel
    have HO := Lib.hid hown
    have HB := Lib.hid hbw
    clear hown hbw
    by_cases hlt : k < m7
    · have hkl : k < log.length := by rw [HLEN.out]; exact hlt
      have hkm : k < (mapTo (latE cc) log k).length := by rw [mapTo_len]; exact hkl
      obtain ⟨g, cx, uu, hv7, hgb, hglt, hcx1, hcx2, hc0, -, -, hf0, -⟩ := HO.out.at hkm
      have hA7 : A7 = some ⟨g, 0, none⟩ ∧ c7 = cx := by injection hv7 with h1 _ h3; exact ⟨h1, h3⟩
      obtain ⟨rfl, rfl⟩ := hA7
      have hmc7 : m7 ≤ c7 := by rw [mapTo_len, HLEN.out] at hcx1; exact hcx1
      unfold maxLen at hcx2
      rw [(mapTo_at (latE cc) log k hkl).1] at hc0
      have hdk := HHI.out.days k hlt
      have HSU := Lib.hid (mapTo_succ (latE cc) log k hkl)
      have HMA := Lib.hid (mapTo_at (latE cc) log k hkl).2
      generalize hdd : dayAt log k = d at *
      have HDD := Lib.hid hdd
      obtain ⟨d2, hd2⟩ : ∃ d2, d + (cc : Int) = d2 := ⟨_, rfl⟩
      have u1 : IntKind.i64.wrap (d + (cc : Int)) = d2 := by rw [IntKind.wrap_i64]; omega
      have HD2 := Lib.hid hd2
      have HC0 := Lib.hid (And.intro hc0 hglt)
      have HC1 := Lib.hid (And.intro ((HY6.out.below HB.out).cell 0) (HY6.out.below HB.out).lt)
      have HF0 := Lib.hid hf0
      have HGB := Lib.hid hgb
      have HKM := Lib.hid hkm
      have HRR := Lib.hid (Below.refl wr.heap.size wr)
      have hi1 : (k : Int) < (m7 : Int) := by omega
      clear hc0 hf0 hgb hdd hd2 hv7 hkm hcx1
      go_upto_region 6 with fail
      refine Lex.wp_region_lex (fun w' => Below wr.heap.size wr w') (fun j => j != 11)
        [(0, true), (1, true), (2, true), (3, true), (4, true), (5, true), (6, true), (7, true), (8, true), (9, false), (10, false), (11, false)]
        (by kernel_rfl) (by kernel_rfl) (by kernel_rfl) (by kernel_rfl) ⟨rfl, rfl, rfl, Nat.le_refl _, fun _ _ => rfl⟩ ?_
      have hb0 : Below wr.heap.size wr wr.drew := ⟨rfl, rfl, rfl, Nat.le_refl _, fun _ _ => rfl⟩
      generalize hV0 : wr.drew = V0 at *
      clear hV0
      iterate 9 (refine Lex.lex_take (v := ?_) rfl rfl (by rfl) (fun _ hS => ?_) ?_; rotate_left 1; (focus (have g0 := (hS.cell HC0.out.2).trans HC0.out.1; have g1 := (hS.cell HC1.out.2).trans HC1.out.1; clear hS; go_simp; with_reducible rfl)); simp only [List.setIfInBounds_toArray, List.set_cons_zero, List.set_cons_succ])
      refine Lex.lex_do rfl ?_
      go_wp2_with fail
      refine Lex.lexQ_normal (fun _ => hb0) ?_
      refine Lex.lex_do rfl ?_
      go_wp2_with fail
      refine Lex.lexQ_normal (fun _ => hb0) ?_
      refine Lex.lex_do rfl ?_
      have oc2 := (hb0.cell (p := ⟨g, k * 2, none⟩) HC0.out.2).trans HC0.out.1
      have of2 := ((HO.out.below hb0).free HKM.out).1
      go_wp2_with fail
      refine Lex.lexQ_normal (fun h => absurd h (by decide)) ?_
      refine Lex.lex_nil ?_
      have HN := Lib.hid (show OwnEv (V0.setCell ⟨g, k * 2, none⟩ (.int .i64 d2)) W6.heap.size (.slice (some ⟨g, 0, none⟩) m7 c7) (mapTo (latE cc) log (k + 1)) by
        have h := (HO.out.below hb0).setDay HKM.out d2
        rw [HMA.out] at h
        rw [HSU.out, ← HD2.out]
        rw [← HD2.out] at h
        exact h)
      have HBN := Lib.hid ((HB.out.trans (hb0.mono HB.out.size)).setCell (p := ⟨g, k * 2, none⟩) HGB.out (.int .i64 d2))
      go_wp2
      go_roundw
      case rel => exact ⟨k + 1, by omega, by go_num, HN.out, HBN.out⟩
      case measure => simp [intOf]; omega
    · obtain rfl : m7 = k := by omega
      rw [mapTo_all (latE cc) log m7 (by rw [HLEN.out]; exact Nat.le_refl _)] at HO
      obtain ⟨W8, rfl⟩ : ∃ W8, W8 = wr := ⟨wr, rfl⟩
      have HW8 := Lib.hid (HW6.out.trans (HB.out.mono HW6.out.size))
      have HT8 := Lib.hid (HT6.out.below HB.out)
      have HE8 := Lib.hid (HE6.out.below HB.out)
      have HX8 := Lib.hid (HX6.out.below HB.out)
      have HY8 := Lib.hid (HY6.out.below HB.out)
      have HE2 := Lib.hid HO.out.evV
      have HOK := Lib.hid (HAB.out.ok (by omega))
      have HLB := Lib.hid (HHI.out.logB (by omega))
      have HOB := Lib.hid (show (t.ok && logB log) = true by rw [HOK.out, HLB.out]; rfl)
      have HOB2 := Lib.hid (show (t.ok && logB (log.map (latE cc))) = true by rw [HOK.out, HHI.out.lat (by omega) (by omega)]; rfl)
      have HWL := Lib.hid (watch_lat HHI.out t (c := cc) (by omega))
      have HWT := Lib.hid (show ∀ W, Below W8.heap.size W8 W → Calls Tryd.prog 12 #[.agg #[.int .i64 t.1, .string ⟨t.2.1.toArray⟩, .int .i64 t.2.2.1, .slice A3 m3 c3], .slice A5 m7 c5] W (RetWatch t log W) from fun W hb => watch_any (HT8.out.below hb) HAB.out.fit (HE8.out.below hb) (HHI.out.fit (by omega)))
      have HWT2 := Lib.hid (show ∀ W, Below W8.heap.size W8 W → Calls Tryd.prog 12 #[.agg #[.int .i64 t.1, .string ⟨t.2.1.toArray⟩, .int .i64 t.2.2.1, .slice A3 m3 c3], .slice A7 m7 c7] W (RetWatch t (log.map (latE cc)) W) from fun W hb => watch_any (HT8.out.below hb) HAB.out.fit (HE2.out.below hb) (HHI.out.latFit (by omega) (by omega)))
      have HONE := Lib.hid (show ∀ W, Below W8.heap.size W8 W → Calls Tryd.prog 18 #[.int .i64 10, .agg #[.int .i64 t.1, .string ⟨t.2.1.toArray⟩, .int .i64 t.2.2.1, .slice A3 m3 c3]] W (RetOneW t W) from fun W hb => onew_any (HT8.out.below hb))
      clear HT6 HE6 HX6 HY6 HW6 HB HO HS HH HB1
      generalize t.1 = kk at *
      generalize t.2.1 = knm at *
      generalize t.2.2.1 = kn at *
      generalize W5.heap.size = TB at *
      have HB := Lib.hid (Below.refl W8.heap.size W8)
      have k0 := (HX8.out.below HB.out).cell 0
      have k1 := (HX8.out.below HB.out).cell 1
      have k2 := (HX8.out.below HB.out).cell 2
      have k3 := (HX8.out.below HB.out).cell 3
      have cw := HWT.out W8 HB.out
      go_wp2_with fail
      refine cw.mono ?_
      rintro e W11 hr
      obtain ⟨v11, rfl, hbo, hb⟩ := hr.yes HOB.out
      replace HB := Lib.hid (HB.out.trans (hb.mono HB.out.size))
      have HBA := Lib.hid hbo.boolV
      clear cw k0 k1 k2 k3 hr hbo hb
      have k0 := (HX8.out.below HB.out).cell 0
      have k1 := (HX8.out.below HB.out).cell 1
      have k2 := (HX8.out.below HB.out).cell 2
      have k3 := (HX8.out.below HB.out).cell 3
      have cw := HWT2.out W11 HB.out
      go_wp2_with fail
      refine cw.mono ?_
      rintro e W13 hr
      obtain ⟨v13, rfl, hbo, hb⟩ := hr.yes HOB2.out
      rw [HWL.out] at hbo
      replace HB := Lib.hid (HB.out.trans (hb.mono HB.out.size))
      replace HBA := Lib.hid (BoolN.below HBA.out hb)
      have HBB := Lib.hid hbo.boolV
      clear cw k0 k1 k2 k3 hr hbo hb
      have HF4 := Lib.hid (show Four W13 TB (.int .i64 kk) (.string ⟨knm.toArray⟩) (.int .i64 kn) (.slice A3 m3 c3) 26 from HX8.out.below HB.out)
      go_upto_region 9 with fail
      refine Lex.wp_region_mix (fun w' => Four w' TB (.int .i64 kk) (.string ⟨knm.toArray⟩) (.int .i64 kn) (.slice A3 m3 c3) 26)
        [(0, 57), (1, 58), (2, 59), (3, 60), (4, 15), (5, 16)] (fun j => j == 0 || j == 2) (fun j => j == 4 || j == 5) [(6, false), (7, false)]
        (fun i v w' => match i with | 0 => v = .agg #[.int .i64 kk, .string ⟨knm.toArray⟩, .int .i64 kn, .slice A3 m3 c3] | 1 => ∃ A c, v = .agg #[.int .i64 10, .string ⟨#[]⟩, .int .i64 0, .slice A 1 c] ∧ KidsV (fun _ => True) w' (.slice A 1 c) t.fo | 2 => v = .agg #[.int .i64 kk, .string ⟨knm.toArray⟩, .int .i64 kn, .slice A3 m3 c3] | 3 => ∃ A c, v = .agg #[.int .i64 10, .string ⟨#[]⟩, .int .i64 0, .slice A 1 c] ∧ KidsV (fun _ => True) w' (.slice A 1 c) t.fo | 4 => ∃ B, v = .pointer (some ⟨B, 0, none⟩) ∧ W13.heap.size ≤ B ∧ Four w' B (.int .i64 0) (.string ⟨#[]⟩) (.int .i64 0) (.slice none 0 0) 26 | 5 => ∃ B, v = .pointer (some ⟨B, 0, none⟩) ∧ W13.heap.size ≤ B ∧ Four w' B (.int .i64 0) (.string ⟨#[]⟩) (.int .i64 0) (.slice none 0 0) 26 | _ => False)
        (by kernel_rfl) (by kernel_rfl) (by kernel_rfl) HF4.out (fun w1 w2 hS hb => hS.below hb hS.lt) ?_ ?_ ?_
      · refine Lex.all_cons ?_ (Lex.all_cons ?_ (Lex.all_cons ?_ (Lex.all_cons ?_ (Lex.all_cons ?_ (Lex.all_cons ?_ (Lex.all_nil))))))
        · exact fun v w1 w2 h _ => h
        · rintro v w1 w2 ⟨A, c, e1, e2⟩ hb; exact ⟨A, c, e1, e2.below hb⟩
        · exact fun v w1 w2 h _ => h
        · rintro v w1 w2 ⟨A, c, e1, e2⟩ hb; exact ⟨A, c, e1, e2.below hb⟩
        · exact fun v w1 w2 ⟨B, hv, hl, hT⟩ hb => ⟨B, hv, hl, hT.below hb hT.lt⟩
        · exact fun v w1 w2 ⟨B, hv, hl, hT⟩ hb => ⟨B, hv, hl, hT.below hb hT.lt⟩
      · refine Lex.all_cons ?_ (Lex.all_cons ?_ (Lex.all_cons ?_ (Lex.all_cons ?_ (Lex.all_cons ?_ (Lex.all_cons ?_ (Lex.all_nil))))))
        · refine Lex.ob_eager rfl rfl (fun σ w1 hS hB hg => ⟨.agg #[.int .i64 kk, .string ⟨knm.toArray⟩, .int .i64 kn, .slice A3 m3 c3], rfl, fun w2 hS => ?_, rfl⟩)
          clear hg
          simp only [Lex.full, Act.put, List.setIfInBounds_toArray, List.set_cons_zero, List.set_cons_succ]
          have f0_0 := hS.cell0
          have f0_1 := hS.cell1
          have f0_2 := hS.cell2
          have f0_3 := hS.cell3
          clear hS
          go_simp
          all_goals with_reducible rfl
        · refine Lex.ob_step rfl rfl rfl (fun σ w1 hS hB hg K hK => ?_)
          have HK := Lib.hid hK
          clear hK
          have g0 : (σ 0) = .agg #[.int .i64 kk, .string ⟨knm.toArray⟩, .int .i64 kn, .slice A3 m3 c3] := hg (0, 57) (by simp) (by kernel_rfl)
          clear hg
          simp only [Lex.full, Act.put, List.setIfInBounds_toArray, List.set_cons_zero, List.set_cons_succ]
          simp only [g0]
          have hw1 : Below W8.heap.size W8 w1 := HB.out.drew.trans (hB.mono HB.out.size)
          have cc := HONE.out w1 hw1
          go_wp2_with fail
          refine cc.mono ?_
          rintro e w2 ⟨A9, c9, rfl, hk9, hn⟩
          clear cc
          go_wp2_with fail
          exact HK.out _ _ ⟨rfl, hn, ⟨A9, c9, rfl, hk9⟩, fun h => nomatch h⟩
        · refine Lex.ob_eager rfl rfl (fun σ w1 hS hB hg => ⟨.agg #[.int .i64 kk, .string ⟨knm.toArray⟩, .int .i64 kn, .slice A3 m3 c3], rfl, fun w2 hS => ?_, rfl⟩)
          clear hg
          simp only [Lex.full, Act.put, List.setIfInBounds_toArray, List.set_cons_zero, List.set_cons_succ]
          have f0_0 := hS.cell0
          have f0_1 := hS.cell1
          have f0_2 := hS.cell2
          have f0_3 := hS.cell3
          clear hS
          go_simp
          all_goals with_reducible rfl
        · refine Lex.ob_step rfl rfl rfl (fun σ w1 hS hB hg K hK => ?_)
          have HK := Lib.hid hK
          clear hK
          have g2 : (σ 2) = .agg #[.int .i64 kk, .string ⟨knm.toArray⟩, .int .i64 kn, .slice A3 m3 c3] := hg (2, 59) (by simp) (by kernel_rfl)
          clear hg
          simp only [Lex.full, Act.put, List.setIfInBounds_toArray, List.set_cons_zero, List.set_cons_succ]
          simp only [g2]
          have hw1 : Below W8.heap.size W8 w1 := HB.out.drew.trans (hB.mono HB.out.size)
          have cc := HONE.out w1 hw1
          go_wp2_with fail
          refine cc.mono ?_
          rintro e w2 ⟨A9, c9, rfl, hk9, hn⟩
          clear cc
          go_wp2_with fail
          exact HK.out _ _ ⟨rfl, hn, ⟨A9, c9, rfl, hk9⟩, fun h => nomatch h⟩
        · refine Lex.ob_step rfl rfl rfl (fun σ w1 hS hB hg K hK => ?_)
          have HK := Lib.hid hK
          clear hK
          clear hg
          simp only [Lex.full, Act.put, List.setIfInBounds_toArray, List.set_cons_zero, List.set_cons_succ]
          go_wp2_with fail
          refine HK.out _ _ ⟨rfl, (Below.refl _ _).alloc (Nat.le_refl _) _, ⟨w1.heap.size, rfl, show W13.heap.size ≤ _ from hB.size, Four.newAt _ _ _ _ _ _ _ rfl⟩, fun _ => ?_⟩
          refine Lex.all_cons ?_ (Lex.all_cons ?_ (Lex.all_cons ?_ (Lex.all_cons ?_ (Lex.all_cons ?_ (Lex.all_cons ?_ (Lex.all_nil))))))
          · intro u h; cases h
          · intro u h; cases h
          · intro u h; cases h
          · intro u h; cases h
          · rintro u _ ⟨B, rfl, _, hT⟩ he; have := hT.lt; have he : Value.pointer (some ⟨B, 0, none⟩) = .pointer (some ⟨w1.heap.size, 0, none⟩) := he; injection he with he; injection he with he; injection he with he; omega
          · rintro u _ ⟨B, rfl, _, hT⟩ he; have := hT.lt; have he : Value.pointer (some ⟨B, 0, none⟩) = .pointer (some ⟨w1.heap.size, 0, none⟩) := he; injection he with he; injection he with he; injection he with he; omega
        · refine Lex.ob_step rfl rfl rfl (fun σ w1 hS hB hg K hK => ?_)
          have HK := Lib.hid hK
          clear hK
          clear hg
          simp only [Lex.full, Act.put, List.setIfInBounds_toArray, List.set_cons_zero, List.set_cons_succ]
          go_wp2_with fail
          refine HK.out _ _ ⟨rfl, (Below.refl _ _).alloc (Nat.le_refl _) _, ⟨w1.heap.size, rfl, show W13.heap.size ≤ _ from hB.size, Four.newAt _ _ _ _ _ _ _ rfl⟩, fun _ => ?_⟩
          refine Lex.all_cons ?_ (Lex.all_cons ?_ (Lex.all_cons ?_ (Lex.all_cons ?_ (Lex.all_cons ?_ (Lex.all_cons ?_ (Lex.all_nil))))))
          · intro u h; cases h
          · intro u h; cases h
          · intro u h; cases h
          · intro u h; cases h
          · rintro u _ ⟨B, rfl, _, hT⟩ he; have := hT.lt; have he : Value.pointer (some ⟨B, 0, none⟩) = .pointer (some ⟨w1.heap.size, 0, none⟩) := he; injection he with he; injection he with he; injection he with he; omega
          · rintro u _ ⟨B, rfl, _, hT⟩ he; have := hT.lt; have he : Value.pointer (some ⟨B, 0, none⟩) = .pointer (some ⟨w1.heap.size, 0, none⟩) := he; injection he with he; injection he with he; injection he with he; omega
      · intro σ V hS hB hg hd
        have e0 : (σ 0) = .agg #[.int .i64 kk, .string ⟨knm.toArray⟩, .int .i64 kn, .slice A3 m3 c3] := hg (0, 57) (by simp)
        have e1 : ∃ A c, (σ 1) = .agg #[.int .i64 10, .string ⟨#[]⟩, .int .i64 0, .slice A 1 c] ∧ KidsV (fun _ => True) V (.slice A 1 c) t.fo := hg (1, 58) (by simp)
        have e2 : (σ 2) = .agg #[.int .i64 kk, .string ⟨knm.toArray⟩, .int .i64 kn, .slice A3 m3 c3] := hg (2, 59) (by simp)
        have e3 : ∃ A c, (σ 3) = .agg #[.int .i64 10, .string ⟨#[]⟩, .int .i64 0, .slice A 1 c] ∧ KidsV (fun _ => True) V (.slice A 1 c) t.fo := hg (3, 60) (by simp)
        have e4 : ∃ B, (σ 4) = .pointer (some ⟨B, 0, none⟩) ∧ W13.heap.size ≤ B ∧ Four V B (.int .i64 0) (.string ⟨#[]⟩) (.int .i64 0) (.slice none 0 0) 26 := hg (4, 15) (by simp)
        have e5 : ∃ B, (σ 5) = .pointer (some ⟨B, 0, none⟩) ∧ W13.heap.size ≤ B ∧ Four V B (.int .i64 0) (.string ⟨#[]⟩) (.int .i64 0) (.slice none 0 0) 26 := hg (5, 16) (by simp)
        have n4_5 : σ 4 ≠ σ 5 := hd (4, 15) (by simp) (5, 16) (by simp) (by decide) rfl rfl
        clear hg hd
        simp only [Lex.full, Act.put, List.setIfInBounds_toArray, List.set_cons_zero, List.set_cons_succ]
        generalize σ 0 = s0 at *
        generalize σ 1 = s1 at *
        generalize σ 2 = s2 at *
        generalize σ 3 = s3 at *
        generalize σ 4 = s4 at *
        generalize σ 5 = s5 at *
        clear σ
        subst e0
        obtain ⟨Ax1, cx1, rfl, hkx1⟩ := e1
        subst e2
        obtain ⟨Ax3, cx3, rfl, hkx3⟩ := e3
        obtain ⟨B4, rfl, l4, T4⟩ := e4
        have HT4 := Lib.hid T4
        clear T4
        obtain ⟨B5, rfl, l5, T5⟩ := e5
        have HT5 := Lib.hid T5
        clear T5
        replace n4_5 : B4 ≠ B5 := fun e => n4_5 (by rw [e])
        have HBm := Lib.hid (show Below W8.heap.size W8 V from HB.out.drew.trans (hB.mono HB.out.size))
        have HBb := Lib.hid (show Below W13.heap.size W13 V from ⟨hB.os, hB.tape, hB.output, hB.size, hB.block⟩)
        have HSm := Lib.hid hS
        clear hB hS

        have HSP := Lib.hid (show t.fo.shp = true from HAB.out.1)
        have HKX1 := Lib.hid ((hkx1.notZero HT4.out HSP.out).notZero HT5.out HSP.out)
        have HKX3 := Lib.hid ((hkx3.notZero HT4.out HSP.out).notZero HT5.out HSP.out)
        have HTB := Lib.hid (show TB ≠ B4 ∧ TB ≠ B5 from by have := HF4.out.lt; omega)
        have HBL := Lib.hid (show W13.heap.size ≤ B4 ∧ W13.heap.size ≤ B5 from ⟨l4, l5⟩)
        have HNE := Lib.hid n4_5
        clear hkx1 hkx3 l4 l5 n4_5 HBm
        refine Lex.lex_do rfl ?_
        have r0 := HT4.out.cell0
        have r1 := HT4.out.cell1
        have r2 := HT4.out.cell2
        have r3 := HT4.out.cell3
        have g0 := HT4.out.free 0
        have g1 := HT4.out.free 1
        have g2 := HT4.out.free 2
        have g3 := HT4.out.free 3
        obtain ⟨V1, hV1⟩ : ∃ VX, VX = set4 V B4 (.int .i64 10) (.string ⟨#[]⟩) (.int .i64 0) (.slice Ax1 1 cx1) := ⟨_, rfl⟩
        have HV1 := Lib.hid hV1
        have HV2 := Lib.hid (show (((V.setCell ⟨B4, 0, none⟩ (.int .i64 10)).setCell ⟨B4, 1, none⟩ (.string ⟨#[]⟩)).setCell ⟨B4, 2, none⟩ (.int .i64 0)).setCell ⟨B4, 3, none⟩ (.slice Ax1 1 cx1) = V1 from hV1.symm)
        clear hV1
        go_wp2_with fail
        rw [HV2.out]
        clear r0 r1 r2 r3 g0 g1 g2 g3 HV2
        replace HSm := Lib.hid (show Four V1 TB (.int .i64 kk) (.string ⟨knm.toArray⟩) (.int .i64 kn) (.slice A3 m3 c3) 26 by rw [HV1.out]; exact HSm.out.set4Other HTB.out.1 _ _ _ _)
        replace HKX1 := Lib.hid (show KidsV (fun b => (True ∧ b ≠ B4) ∧ b ≠ B5) V1 (.slice Ax1 1 cx1) t.fo by rw [HV1.out]; exact HKX1.out.set4 (fun b hb => by exact hb.1.2) _ _ _ _)
        replace HKX3 := Lib.hid (show KidsV (fun b => (True ∧ b ≠ B4) ∧ b ≠ B5) V1 (.slice Ax3 1 cx3) t.fo by rw [HV1.out]; exact HKX3.out.set4 (fun b hb => by exact hb.1.2) _ _ _ _)
        replace HBb := Lib.hid (show Below W13.heap.size W13 V1 by rw [HV1.out]; exact HBb.out.trans (below_set4 (N := W13.heap.size) HBL.out.1 _ _ _ _))
        replace HT4 := Lib.hid (show Four V1 B4 (.int .i64 10) (.string ⟨#[]⟩) (.int .i64 0) (.slice Ax1 1 cx1) 26 by rw [HV1.out]; exact HT4.out.set4 _ _ _ _)
        replace HT5 := Lib.hid (show Four V1 B5 (.int .i64 0) (.string ⟨#[]⟩) (.int .i64 0) (.slice none 0 0) 26 by rw [HV1.out]; exact HT5.out.set4Other (Ne.symm HNE.out) _ _ _ _)
        clear HV1
        refine Lex.lexQ_normal (fun _ => HSm.out) ?_
        refine Lex.lex_do rfl ?_
        have r0 := HT5.out.cell0
        have r1 := HT5.out.cell1
        have r2 := HT5.out.cell2
        have r3 := HT5.out.cell3
        have g0 := HT5.out.free 0
        have g1 := HT5.out.free 1
        have g2 := HT5.out.free 2
        have g3 := HT5.out.free 3
        obtain ⟨V2, hV1⟩ : ∃ VX, VX = set4 V1 B5 (.int .i64 10) (.string ⟨#[]⟩) (.int .i64 0) (.slice Ax3 1 cx3) := ⟨_, rfl⟩
        have HV1 := Lib.hid hV1
        have HV2 := Lib.hid (show (((V1.setCell ⟨B5, 0, none⟩ (.int .i64 10)).setCell ⟨B5, 1, none⟩ (.string ⟨#[]⟩)).setCell ⟨B5, 2, none⟩ (.int .i64 0)).setCell ⟨B5, 3, none⟩ (.slice Ax3 1 cx3) = V2 from hV1.symm)
        clear hV1
        go_wp2_with fail
        rw [HV2.out]
        clear r0 r1 r2 r3 g0 g1 g2 g3 HV2
        replace HSm := Lib.hid (show Four V2 TB (.int .i64 kk) (.string ⟨knm.toArray⟩) (.int .i64 kn) (.slice A3 m3 c3) 26 by rw [HV1.out]; exact HSm.out.set4Other HTB.out.2 _ _ _ _)
        replace HKX1 := Lib.hid (show KidsV (fun b => (True ∧ b ≠ B4) ∧ b ≠ B5) V2 (.slice Ax1 1 cx1) t.fo by rw [HV1.out]; exact HKX1.out.set4 (fun b hb => by exact hb.2) _ _ _ _)
        replace HKX3 := Lib.hid (show KidsV (fun b => (True ∧ b ≠ B4) ∧ b ≠ B5) V2 (.slice Ax3 1 cx3) t.fo by rw [HV1.out]; exact HKX3.out.set4 (fun b hb => by exact hb.2) _ _ _ _)
        replace HBb := Lib.hid (show Below W13.heap.size W13 V2 by rw [HV1.out]; exact HBb.out.trans (below_set4 (N := W13.heap.size) HBL.out.2 _ _ _ _))
        replace HT5 := Lib.hid (show Four V2 B5 (.int .i64 10) (.string ⟨#[]⟩) (.int .i64 0) (.slice Ax3 1 cx3) 26 by rw [HV1.out]; exact HT5.out.set4 _ _ _ _)
        replace HT4 := Lib.hid (show Four V2 B4 (.int .i64 10) (.string ⟨#[]⟩) (.int .i64 0) (.slice Ax1 1 cx1) 26 by rw [HV1.out]; exact HT4.out.set4Other HNE.out _ _ _ _)
        clear HV1
        refine Lex.lexQ_normal (fun _ => HSm.out) ?_
        refine Lex.lex_nil ?_
        have HYV := Lib.hid (HY8.out.below (HB.out.trans (HBb.out.mono HB.out.size)))
        obtain ⟨r1, hr1, hr1b⟩ := and_le q 63 (by omega)
        have hr1' : bits .and .i64 q 63 = (r1 : Int) := hr1
        obtain ⟨r0, hr0, hr0b⟩ := and_le p 15 (by omega)
        have hr0' : bits .and .i64 p 15 = (r0 : Int) := hr0
        clear hr1 hr0
        have y1 := HYV.out.cell 1
        have f2 := HT4.out.free 2
        have z2 := HT4.out.cell2
        go_upto_region 11 with fail
        obtain ⟨V3, hV3⟩ : ∃ V3, V3 = V2.setCell ⟨B4, 2, none⟩ (.int .i64 (r1 : Int)) := ⟨_, rfl⟩
        have HV3 := Lib.hid hV3
        rw [← hV3]
        clear hV3 y1 f2 z2
        have HYV3 := Lib.hid (show Blk V3 w.heap.size #[.int .i64 p, .int .i64 q] 41 by rw [HV3.out]; exact HYV.out.setOther _ _ (by have := HY8.out.lt; have := HB.out.size; have := HBL.out.1; show w.heap.size ≠ B4; omega))
        have HT43 := Lib.hid (show Four V3 B4 (.int .i64 10) (.string ⟨#[]⟩) (.int .i64 (r1 : Int)) (.slice Ax1 1 cx1) 26 by rw [HV3.out]; exact HT4.out.set2 _)
        have HT53 := Lib.hid (show Four V3 B5 (.int .i64 10) (.string ⟨#[]⟩) (.int .i64 0) (.slice Ax3 1 cx3) 26 by rw [HV3.out]; exact HT5.out.setOther _ _ (Ne.symm HNE.out))
        replace HBb := Lib.hid (show Below W13.heap.size W13 V3 by rw [HV3.out]; exact HBb.out.setCell HBL.out.1 _)
        replace HKX1 := Lib.hid (show KidsV (fun b => (True ∧ b ≠ B4) ∧ b ≠ B5) V3 (.slice Ax1 1 cx1) t.fo by rw [HV3.out]; exact HKX1.out.set _ (fun b hb => hb.1.2) _)
        replace HKX3 := Lib.hid (show KidsV (fun b => (True ∧ b ≠ B4) ∧ b ≠ B5) V3 (.slice Ax3 1 cx3) t.fo by rw [HV3.out]; exact HKX3.out.set _ (fun b hb => hb.1.2) _)
        clear HV3 HT4 HT5 HYV HSm HF4
        have u1 : IntKind.i64.wrap ((r1 : Int) + (r0 : Int)) = (r1 : Int) + (r0 : Int) := by rw [IntKind.wrap_i64]; omega
        have y0 := HYV3.out.cell 0
        have x2 := HT43.out.cell2
        have f2 := HT53.out.free 2
        have z2 := HT53.out.cell2
        go_upto_region 12 with fail
        obtain ⟨V4, hV4⟩ : ∃ V4, V4 = V3.setCell ⟨B5, 2, none⟩ (.int .i64 ((r1 : Int) + (r0 : Int))) := ⟨_, rfl⟩
        have HV4 := Lib.hid hV4
        rw [← hV4]
        clear hV4 y0 x2 f2 z2 u1
        have HT44 := Lib.hid (show Four V4 B4 (.int .i64 10) (.string ⟨#[]⟩) (.int .i64 (r1 : Int)) (.slice Ax1 1 cx1) 26 by rw [HV4.out]; exact HT43.out.setOther _ _ HNE.out)
        have HT54 := Lib.hid (show Four V4 B5 (.int .i64 10) (.string ⟨#[]⟩) (.int .i64 ((r1 : Int) + (r0 : Int))) (.slice Ax3 1 cx3) 26 by rw [HV4.out]; exact HT53.out.set2 _)
        replace HBb := Lib.hid (show Below W13.heap.size W13 V4 by rw [HV4.out]; exact HBb.out.setCell HBL.out.2 _)
        replace HKX1 := Lib.hid (show KidsV (fun b => (True ∧ b ≠ B4) ∧ b ≠ B5) V4 (.slice Ax1 1 cx1) t.fo by rw [HV4.out]; exact HKX1.out.set _ (fun b hb => hb.2) _)
        replace HKX3 := Lib.hid (show KidsV (fun b => (True ∧ b ≠ B4) ∧ b ≠ B5) V4 (.slice Ax3 1 cx3) t.fo by rw [HV4.out]; exact HKX3.out.set _ (fun b hb => hb.2) _)
        clear HV4 HT43 HT53 HYV3
        have HDD := Lib.hid (show (0 : Int) ≤ (r1 : Int) ∧ (r1 : Int) ≤ (r1 : Int) + (r0 : Int) ∧ (r1 : Int) + (r0 : Int) ≤ 100 by omega)
        clear hr1' hr0' hr1b hr0b
        generalize (r1 : Int) + (r0 : Int) = d2 at *
        generalize (r1 : Int) = d1 at *
        have HA1 := Lib.hid (HAB.out.one (k := 10) (n := d1) (by have := HDD.out; unfold okN kidsN; simp; omega))
        have HA2 := Lib.hid (HAB.out.one (k := 10) (n := d2) (by have := HDD.out; unfold okN kidsN; simp; omega))
        have HO1 := Lib.hid (show ((oneT 10 d1 t).ok && logB log) = true by rw [HA1.out.ok (by omega), HLB.out]; rfl)
        have HO2 := Lib.hid (show ((oneT 10 d2 t).ok && logB log) = true by rw [HA2.out.ok (by omega), HLB.out]; rfl)
        have HWN := Lib.hid (show ∀ W, Below V4.heap.size V4 W → Calls Tryd.prog 12 #[.agg #[.int .i64 10, .string ⟨#[]⟩, .int .i64 d1, .slice Ax1 1 cx1], .slice A5 m7 c5] W (RetWatch (oneT 10 d1 t) log W) from fun W hb => watch_any (t := oneT 10 d1 t) (show TmV (fun b => (True ∧ b ≠ B4) ∧ b ≠ B5) W _ _ from ⟨_, rfl, HKX1.out.below hb⟩) HA1.out.fit (HE8.out.below ((HB.out.trans (HBb.out.mono HB.out.size)).trans (hb.mono (HB.out.trans (HBb.out.mono HB.out.size)).size))) (HHI.out.fit (by omega)))
        have HWF := Lib.hid (show ∀ W, Below V4.heap.size V4 W → Calls Tryd.prog 12 #[.agg #[.int .i64 10, .string ⟨#[]⟩, .int .i64 d2, .slice Ax3 1 cx3], .slice A5 m7 c5] W (RetWatch (oneT 10 d2 t) log W) from fun W hb => watch_any (t := oneT 10 d2 t) (show TmV (fun b => (True ∧ b ≠ B4) ∧ b ≠ B5) W _ _ from ⟨_, rfl, HKX3.out.below hb⟩) HA2.out.fit (HE8.out.below ((HB.out.trans (HBb.out.mono HB.out.size)).trans (hb.mono (HB.out.trans (HBb.out.mono HB.out.size)).size))) (HHI.out.fit (by omega)))
        have HCN := Lib.hid (show ∀ i, i < m7 → (t.says log i = true → (oneT 10 d1 t).says log i = true) ∧ ((oneT 10 d1 t).says log i = true → (oneT 10 d2 t).says log i = true) from fun i hi => ⟨fun h => within_self HHI.out t HDD.out.1 hi h, fun h => within_wider t HDD.out.2.1 h⟩)
        have HLA := Lib.hid (show (t.watch log).length = m7 by rw [watch_len']; exact HLEN.out)
        have HLC := Lib.hid (show ((oneT 10 d1 t).watch log).length = m7 by rw [watch_len']; exact HLEN.out)
        have HLD := Lib.hid (show ((oneT 10 d2 t).watch log).length = m7 by rw [watch_len']; exact HLEN.out)
        have HGA := Lib.hid (show ∀ i, i < m7 → (t.watch log).getD i false = t.says log i from fun i hi => watch_get t log i (by rw [HLEN.out]; exact hi))
        have HGC := Lib.hid (show ∀ i, i < m7 → ((oneT 10 d1 t).watch log).getD i false = (oneT 10 d1 t).says log i from fun i hi => watch_get _ log i (by rw [HLEN.out]; exact hi))
        have HGD := Lib.hid (show ∀ i, i < m7 → ((oneT 10 d2 t).watch log).getD i false = (oneT 10 d2 t).says log i from fun i hi => watch_get _ log i (by rw [HLEN.out]; exact hi))
        replace HBA := Lib.hid (BoolN.below HBA.out HBb.out)
        replace HBB := Lib.hid (BoolN.below HBB.out HBb.out)
        have HLW := Lib.hid (show ∀ W, Below V4.heap.size V4 W → Below w.heap.size w W from fun W hb => HW8.out.trans (((HB.out.trans (HBb.out.mono HB.out.size)).trans (hb.mono (HB.out.trans (HBb.out.mono HB.out.size)).size)).mono HW8.out.size))
        clear HB HBb HKX1 HKX3 HTB HBL HNE HSP HWT HWT2 HONE HX8 HY8 HE8 HT8 HE2 HOB HOB2 HWL HW8 HA1 HA2 HOK HLB HAB HHI HDD HLEN
        generalize (t.watch log) = la at *
        generalize hN1 : oneT 10 d1 t = near at *
        generalize hN2 : oneT 10 d2 t = far at *
        clear hN1 hN2
        have HQ := Lib.hid (Below.refl V4.heap.size V4)
        have k0 := HT44.out.cell0
        have k1 := HT44.out.cell1
        have k2 := HT44.out.cell2
        have k3 := HT44.out.cell3
        have cw := HWN.out V4 HQ.out
        go_wp2_with fail
        refine cw.mono ?_
        rintro e W17 hr
        obtain ⟨v17, rfl, hbo, hb⟩ := hr.yes HO1.out
        replace HQ := Lib.hid (HQ.out.trans (hb.mono HQ.out.size))
        have HBC := Lib.hid hbo.boolV
        replace HBA := Lib.hid (BoolN.below HBA.out hb)
        replace HBB := Lib.hid (BoolN.below HBB.out hb)
        have HT55 := Lib.hid (HT54.out.below hb HT54.out.lt)
        clear cw k0 k1 k2 k3 hr hbo hb HWN HT44 HT54
        have k0 := HT55.out.cell0
        have k1 := HT55.out.cell1
        have k2 := HT55.out.cell2
        have k3 := HT55.out.cell3
        have cw := HWF.out W17 HQ.out
        go_wp2_with fail
        refine cw.mono ?_
        rintro e W19 hr
        obtain ⟨v19, rfl, hbo, hb⟩ := hr.yes HO2.out
        replace HQ := Lib.hid (HQ.out.trans (hb.mono HQ.out.size))
        have HBD := Lib.hid hbo.boolV
        replace HBA := Lib.hid (BoolN.below HBA.out hb)
        replace HBB := Lib.hid (BoolN.below HBB.out hb)
        replace HBC := Lib.hid (BoolN.below HBC.out hb)
        clear cw k0 k1 k2 k3 hr hbo hb HWF HT55 HO1 HO2
        have cb := bools_any HBA.out HBB.out
        rw [show decide (la = la) = true from decide_eq_true rfl] at cb
        obtain ⟨Aa, ca, rfl, -⟩ := HBA.out
        obtain ⟨Ab, cb', rfl, -⟩ := HBB.out
        obtain ⟨Ac, cc', rfl, -⟩ := HBC.out
        obtain ⟨Ad, cd, rfl, -⟩ := HBD.out
        rw [HLA.out] at cb ⊢
        rw [HLC.out, HLD.out]
        clear HBB
        go_wp2_with fail
        refine cb.mono ?_
        rintro e W20 ⟨rfl, hb⟩
        replace HQ := Lib.hid (HQ.out.trans (hb.mono HQ.out.size))
        replace HBA := Lib.hid (BoolN.below HBA.out hb)
        replace HBC := Lib.hid (BoolN.below HBC.out hb)
        replace HBD := Lib.hid (BoolN.below HBD.out hb)
        have cl := HL.out W20 (HLW.out W20 HQ.out)
        clear cb hb
        go_wp2_with fail
        refine cl.mono ?_
        rintro e W21 ⟨rfl, hb⟩
        replace HQ := Lib.hid (HQ.out.trans (hb.mono HQ.out.size))
        replace HBA := Lib.hid (BoolN.below HBA.out hb)
        replace HBC := Lib.hid (BoolN.below HBC.out hb)
        replace HBD := Lib.hid (BoolN.below HBD.out hb)
        have HGEA := Lib.hid (show ∀ i, i < m7 → ∃ b off c, (Value.slice Aa m7 ca) = .slice (some ⟨b, off, none⟩) m7 c ∧ b < W21.heap.size ∧ ∀ j, j < m7 → W21.cell? ⟨b, off + j, none⟩ = some (.bool (la.getD j false)) from fun i hi => by
          have := BoolN.get HBA.out (j := i) (by rw [HLA.out]; exact hi)
          rw [HLA.out] at this
          exact this)
        have HGEC := Lib.hid (show ∀ i, i < m7 → ∃ b off c, (Value.slice Ac m7 cc') = .slice (some ⟨b, off, none⟩) m7 c ∧ b < W21.heap.size ∧ ∀ j, j < m7 → W21.cell? ⟨b, off + j, none⟩ = some (.bool ((near.watch log).getD j false)) from fun i hi => by
          have := BoolN.get HBC.out (j := i) (by rw [HLC.out]; exact hi)
          rw [HLC.out] at this
          exact this)
        have HGED := Lib.hid (show ∀ i, i < m7 → ∃ b off c, (Value.slice Ad m7 cd) = .slice (some ⟨b, off, none⟩) m7 c ∧ b < W21.heap.size ∧ ∀ j, j < m7 → W21.cell? ⟨b, off + j, none⟩ = some (.bool ((far.watch log).getD j false)) from fun i hi => by
          have := BoolN.get HBD.out (j := i) (by rw [HLD.out]; exact hi)
          rw [HLD.out] at this
          exact this)
        clear cl hb HBA HBC HBD
        go_wp2
        go_loopw [21] (fun i wr => ∃ k : Nat, k ≤ m7 ∧ i = .int .i64 k ∧ Below W21.heap.size W21 wr) (fun i _ => m7 - (intOf i).toNat)
        case atStart => exact ⟨0, Nat.zero_le _, rfl, Below.refl _ _⟩
        case round =>
          obtain ⟨k, hk, rfl, hbw⟩ := hrel
          have HB := Lib.hid hbw
          clear hbw
          by_cases hlt : k < m7
          · obtain ⟨b1, o1, e1', h1, hl1, hc1⟩ := HGEA.out k hlt
            obtain ⟨b2, o2, e2', h2, hl2, hc2⟩ := HGEC.out k hlt
            obtain ⟨b3, o3, e3', h3, hl3, hc3⟩ := HGED.out k hlt
            injection h1 with h1 _ _
            injection h2 with h2 _ _
            injection h3 with h3 _ _
            subst h1 h2 h3
            have q1 := (HB.out.cell (p := ⟨b1, o1 + k, none⟩) hl1).trans (hc1 k hlt)
            have q2 := (HB.out.cell (p := ⟨b2, o2 + k, none⟩) hl2).trans (hc2 k hlt)
            have q3 := (HB.out.cell (p := ⟨b3, o3 + k, none⟩) hl3).trans (hc3 k hlt)
            rw [HGA.out k hlt] at q1
            rw [HGC.out k hlt] at q2
            rw [HGD.out k hlt] at q3
            obtain ⟨ac, cd'⟩ := HCN.out k hlt
            have hi1 : (k : Int) < (m7 : Int) := by omega
            generalize t.says log k = sa at *
            generalize near.says log k = sc at *
            generalize far.says log k = sd at *
            clear hc1 hc2 hc3
            cases sc
            · obtain rfl : false = sa := by
                cases sa
                · rfl
                · exact absurd (ac rfl) (by decide)
              clear ac cd'
              go_wp2
              go_roundw
              case rel => exact ⟨k + 1, by omega, by go_num, HB.out⟩
              case measure => simp [intOf]; omega
            · obtain rfl : true = sd := (cd' rfl).symm
              clear ac cd'
              cases sa
              · go_wp2
                go_roundw
                case rel => exact ⟨k + 1, by omega, by go_num, HB.out⟩
                case measure => simp [intOf]; omega
              · go_wp2
                go_roundw
                case rel => exact ⟨k + 1, by omega, by go_num, HB.out⟩
                case measure => simp [intOf]; omega
          · obtain rfl : m7 = k := by omega
            have HF := Lib.hid (HLW.out wr (HQ.out.trans (HB.out.mono HQ.out.size)))
            go_wp2
            go_ret
            exact ⟨rfl, HF.out⟩
end Go.Proofs.YtobpacebpiabcaaDoor
