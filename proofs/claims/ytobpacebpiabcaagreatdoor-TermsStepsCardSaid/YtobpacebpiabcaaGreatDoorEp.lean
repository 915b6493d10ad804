/- TermsSteps: what the law computes (printed by expand.py). -/
import Derived.Test.YtobpacebpiabcaaGreatDoorPkEl
import Derived.Test.YtobpacebpiabcaaGreatDoorPkDd
namespace Go.Proofs.YtobpacebpiabcaaGreatDoor
open Go.RowKit Go.Lib

set_option maxRecDepth 100000 in
set_option maxHeartbeats 12800000 in
theorem steps_any {B0 N0 : Nat} {l : List Nd} {x : List Ev} {u v : Value} {w : World} (hu : NodesV N0 w u l) (hN : N0 ≤ w.heap.size) (hf : NdFit l) (hv : EvV w v x) (hlf : DaysFit x) (hL : LibOk B0 w) : Calls Tryz.prog 4 #[u, v] w (RetW (.bool true) w) := by
  have cb := bigbuild_any hu hN hf
  have HF := Lib.hid (show ∀ W, Below w.heap.size w W → Calls Tryz.prog 19 #[v, .int .i64 40] W (RetEvO (fewM x 40) W) from fun W hb => few_any (hv.below hb) 40 (by omega))
  have HL := Lib.hid (show ∀ W, Below w.heap.size w W → Calls Tryz.prog 21 #[] W (RetW (.bool true) W) from fun W hb => lives_any B0 W (hL.below hb))
  have HEF := Lib.hid (fewM_fit hlf 40)
  have HLN := Lib.hid (fewM_len x 40 (by omega))
  obtain ⟨A1, m1, c1, rfl⟩ : ∃ A m c, u = .slice A m c := by obtain ⟨A, c, h, _⟩ := hu; exact ⟨A, _, c, h⟩
  obtain ⟨A2, m2, c2, rfl⟩ : ∃ A m c, v = .slice A m c := by obtain ⟨A, c, h, _⟩ := hv; exact ⟨A, _, c, h⟩
  clear hu hN hf hv hlf hL
  generalize fewM x 40 = lg at *
  go_enter Tryz.func4, Tryz.ntmps4
  go_wp2_with fail
  refine cb.mono ?_
  rintro e W4 ⟨t, v4, rfl, htm, hsm, hb4⟩
  have HB4 := Lib.hid hb4
  have HT := Lib.hid htm
  have HSM := Lib.hid hsm
  obtain ⟨u4, rfl, hk4⟩ := htm
  obtain ⟨A3, m3, c3, rfl, -⟩ := hk4.open'
  have cf := HF.out W4 HB4.out
  clear cb hsm hb4 hk4
  go_wp2_with fail
  refine cf.mono ?_
  rintro e W5 ⟨v5, rfl, hown, hb5⟩
  have HE := Lib.hid (hown.evV)
  obtain ⟨A5, m5, c5, rfl, hm5⟩ : ∃ A m c, v5 = .slice A m c ∧ m = lg.length := by obtain ⟨A, c, h, _⟩ := HE.out; exact ⟨A, _, c, h, rfl⟩
  have HM5 := Lib.hid hm5
  have HW5 := Lib.hid (HB4.out.trans (hb5.mono HB4.out.size))
  have HT5 := Lib.hid (HT.out.below hb5)
  clear cf hown hb5 hm5
  go_upto_region 2 with fail
  obtain ⟨W6, hW6⟩ : ∃ W6, W6 = W5.alloc (.cells #[.int .i64 t.1, .string ⟨t.2.1.toArray⟩, .int .i64 t.2.2.1, .slice A3 m3 c3] 26) := ⟨_, rfl⟩
  have hb6 : Below W5.heap.size W5 W6 := by rw [hW6]; exact (Below.refl _ _).alloc (Nat.le_refl _) _
  have HX6 := Lib.hid (show Blk W6 W5.heap.size #[.int .i64 t.1, .string ⟨t.2.1.toArray⟩, .int .i64 t.2.2.1, .slice A3 m3 c3] 26 by rw [hW6]; exact Blk.new _ _ _)
  rw [← hW6]
  clear hW6
  have HW6 := Lib.hid (HW5.out.trans (hb6.mono HW5.out.size))
  have HT6 := Lib.hid (HT5.out.below hb6)
  have HE6 := Lib.hid (HE.out.below hb6)
  have cn := new_any HT6.out HSM.out.1
  have HKV := Lib.hid (show ∀ W, Below W6.heap.size W6 W → Calls Tryz.prog 20 #[.agg #[.int .i64 t.1, .string ⟨t.2.1.toArray⟩, .int .i64 t.2.2.1, .slice A3 m3 c3]] W (RetW (.bool t.ok) W) from fun W hb => refvalid_any (HT6.out.below hb) HSM.out.1 (by have := HSM.out.2; omega))
  have HKW := Lib.hid (show t.ok = true → ∀ W u log, Below W6.heap.size W6 W → EvV W u log → logTo log log.length = true → log.length ≤ 1000 → Calls Tryz.prog 24 #[.agg #[.int .i64 t.1, .string ⟨t.2.1.toArray⟩, .int .i64 t.2.2.1, .slice A3 m3 c3], u] W (RetBoolO (t.watch log) W) from fun ho W u log hb he hl hn => rwatch_to (HT6.out.below hb) (ok_shp2 ho) he hl hn)
  have HSH := Lib.hid (show t.ok = true → t.fo.shp = true from ok_shp2)
  have HCN := Lib.hid (show t.2.2.2.cnt ≤ 1000 from by have h := HSM.out.2; rw [tm_cnt] at h; omega)
  have HWL := Lib.hid (show ∀ log, (t.watch log).length = log.length from fun log => watch_len' t log)
  have HWG := Lib.hid (show ∀ log i, i < log.length → (t.watch log).getD i false = t.says log i from fun log i hi => watch_get t log i hi)
  clear hb6 HE HT HT5 HW5 HB4 HF HSM
  generalize hkk : t.1 = kk at *
  generalize hknm : t.2.1 = knm at *
  generalize hkn : t.2.2.1 = kn at *
  clear hkk hknm hkn
  have k0 := HX6.out.cell 0
  have k1 := HX6.out.cell 1
  have k2 := HX6.out.cell 2
  have k3 := HX6.out.cell 3
  go_wp2_with fail
  refine cn.mono ?_
  rintro e W7 hr
  have HR := Lib.hid hr
  clear cn hr k0 k1 k2 k3
  cases hok : t.ok with
  | false =>
    obtain ⟨rfl, hb7⟩ := HR.out.no hok
    have HB7 := Lib.hid hb7
    have cv := HKV.out W7 HB7.out
    rw [hok] at cv
    clear hb7 HR hok
    have HX7 := Lib.hid (HX6.out.below HB7.out)
    have k0 := HX7.out.cell 0
    have k1 := HX7.out.cell 1
    have k2 := HX7.out.cell 2
    have k3 := HX7.out.cell 3
    go_wp2_with fail
    refine cv.mono ?_
    rintro e W8 ⟨rfl, hb8⟩
    have HB8 := Lib.hid (HB7.out.trans (hb8.mono HB7.out.size))
    have cl := HL.out W8 (HW6.out.trans (HB8.out.mono HW6.out.size))
    clear cv hb8 k0 k1 k2 k3
    go_wp2_with fail
    refine cl.mono ?_
    rintro e W9 ⟨rfl, hb9⟩
    have HBF := Lib.hid (HW6.out.trans ((HB8.out.trans (hb9.mono HB8.out.size)).mono HW6.out.size))
    clear cl hb9
    go_wp2
    go_ret
    exact ⟨rfl, HBF.out⟩
  | true =>
    obtain ⟨P, pv, B, rfl, hbk7, hpm7, hBB, hPB, hb7⟩ := HR.out.yes hok
    have HNB := Lib.hid (show P ∉ B from fun h => (hBB P h).2 rfl)
    have HGE := Lib.hid (show ∀ k ∈ P :: B, W6.heap.size ≤ k from fun k hk => by
      rcases List.mem_cons.1 hk with rfl | hk
      · exact hPB
      · exact (hBB k hk).1)
    have HLT := Lib.hid (show ∀ k ∈ P :: B, k < W7.heap.size from fun k hk => by
      rcases List.mem_cons.1 hk with rfl | hk
      · exact hbk7.lt
      · exact hpm7.lt k hk)
    have HM7 := Lib.hid hbk7
    have HP7 := Lib.hid hpm7
    have HB7 := Lib.hid hb7
    have cv := HKV.out W7 HB7.out
    rw [hok] at cv
    have HKW2 := Lib.hid (HKW.out hok)
    have HSH2 := Lib.hid (HSH.out hok)
    clear hbk7 hpm7 hBB hPB hb7 HR HKW HSH hok
    have HX7 := Lib.hid (HX6.out.below HB7.out)
    have k0 := HX7.out.cell 0
    have k1 := HX7.out.cell 1
    have k2 := HX7.out.cell 2
    have k3 := HX7.out.cell 3
    go_wp2_with fail
    refine cv.mono ?_
    rintro e W8 ⟨rfl, hb8⟩
    have HB8 := Lib.hid (HB7.out.trans (hb8.mono HB7.out.size))
    have HM8 := Lib.hid (HM7.out.below hb8)
    have HP8 := Lib.hid (HP7.out.later hb8)
    have HS8 := Lib.hid hb8.size
    have cl := HL.out W8 (HW6.out.trans (HB8.out.mono HW6.out.size))
    clear cv hb8 k0 k1 k2 k3 HM7 HP7 HB7 HX7
    go_wp2_with fail
    refine cl.mono ?_
    rintro e W9 ⟨rfl, hb9⟩
    have HB9 := Lib.hid (HB8.out.trans (hb9.mono HB8.out.size))
    have HM9 := Lib.hid (HM8.out.below hb9)
    have HP9 := Lib.hid (HP8.out.later hb9)
    have HLT9 := Lib.hid (show ∀ k ∈ P :: B, k < W9.heap.size from fun k hk => Nat.lt_of_lt_of_le (HLT.out k hk) (Nat.le_trans HS8.out hb9.size))
    clear cl hb9 HM8 HP8 HB8 HLT HS8
    obtain ⟨W10, hW10⟩ : ∃ W10, W10 = W9.alloc (.cells #[] 38) := ⟨_, rfl⟩
    have hb10 : Below W9.heap.size W9 W10 := by rw [hW10]; exact (Below.refl _ _).alloc (Nat.le_refl _) _
    have HR10 := Lib.hid (show OwnEvI W6 W10 W9.heap.size (.slice (some ⟨W9.heap.size, 0, none⟩) 0 0) [] from OwnEvI.nil _ _ _ _ (by rw [hW10]; exact World.ownsRow_made W9 #[] 0 (Nat.le_refl _) (by unfold maxLen; omega) rfl))
    have HB10 := Lib.hid (HB9.out.trans (hb10.mono HB9.out.size))
    have HM10 := Lib.hid (HM9.out.below hb10)
    have HP10 := Lib.hid (HP9.out.later hb10)
    have HL10 := Lib.hid (And.intro HB9.out.size hb10.size)
    have ck := kept_mon HM10.out HP10.out HCN.out
    obtain ⟨q, hq⟩ : ∃ q, t.keepN + 1 = q := ⟨_, rfl⟩
    rw [hq] at ck
    have HCK := Lib.hid (show ∀ W seen d, Blk W P #[pv, .int .i64 d] 94 → PartM W seen t pv B → Calls Tryz.prog 22 #[.pointer (some ⟨P, 0, none⟩)] W (RetV (.int .i64 (q : Int)) W) from fun W seen d h1 h2 => by rw [← hq]; exact kept_mon h1 h2 HCN.out)
    clear hq hb10 HM9 HP9 HB9
    go_upto_region 7 with fail
    go_wp2_with fail
    rw [← hW10]
    clear hW10
    refine ck.mono ?_
    rintro e w' ⟨rfl, rfl⟩
    clear ck
    generalize W9.heap.size = N9 at *
    go_wp2
    go_loopw [9, 10, 12] (fun sv dv i wr => ∃ (k : Nat) (seen : List Ev) (day : Int), k ≤ m5 ∧ i = .int .i64 k ∧ dv = .int .i64 day ∧ OwnEvI W6 wr N9 sv seen ∧ logTo seen seen.length = true ∧ seen.length ≤ k ∧ lastDay seen seen.length = day ∧ PartM wr seen t pv B ∧ Blk wr P #[pv, .int .i64 day] 94 ∧ Below W6.heap.size W6 wr ∧ N9 ≤ wr.heap.size) (fun _ _ i _ => m5 - (intOf i).toNat)
    case atStart => exact ⟨0, [], 0, Nat.zero_le _, rfl, rfl, HR10.out, rfl, Nat.le_refl _, rfl, HP10.out, HM10.out, HB10.out, HL10.out.2⟩
    case round =>
      clear HM10 HP10 HB10 HR10
      obtain ⟨k, seen, day, hkn, rfl, rfl, hsr, hva, hsl, hld, hpm, hbk, hbw, hn9⟩ := hrel
      have HVA := Lib.hid hva
      have HSL := Lib.hid hsl
      have HLD := Lib.hid hld
      have HSR := Lib.hid hsr
      have HPM := Lib.hid hpm
      have HBK := Lib.hid hbk
      have HB := Lib.hid hbw
      have HN9 := Lib.hid hn9
      obtain ⟨As, cs, rfl⟩ := hsr.form
      have hday0 : 0 ≤ day := by rw [← hld]; exact lastDay_pos hva
      clear hva hsl hld hsr hpm hbk hbw hn9
      by_cases hlt : k < m5
      · have hkl : k < lg.length := by rw [← HM5.out]; exact hlt
        obtain ⟨A', c', hv5, hc1, hc2, -, hea⟩ := HE6.out
        injection hv5 with h1 h2 h3
        clear h2
        subst h1 h3
        obtain ⟨b, off, uu, rfl, hb, hc0, hcu, hsv⟩ := hea.get hkl
        rw [← HM5.out] at hc1
        unfold maxLen at hc2
        obtain ⟨An, nn, cn, rfl⟩ := hsv.form
        have HC0 := Lib.hid (And.intro hc0 hb)
        have HC1 := Lib.hid (And.intro hcu hb)
        have hc0' := (HB.out.cell (p := ⟨b, off + k * 2, none⟩) hb).trans hc0
        have hcu' := (HB.out.cell (p := ⟨b, off + k * 2 + 1, none⟩) hb).trans hcu
        have hfit := HEF.out.get k
        have HSV := Lib.hid hsv
        generalize dayAt lg k = dk at *
        generalize marksAt lg k = ms at *
        have HLE := Lib.hid hfit.2
        have hki : (k : Int) < (m5 : Int) := by omega
        have hki0 : (0 : Int) ≤ (k : Int) := by omega
        have HD0 := Lib.hid hday0
        clear hc0 hcu hsv hfit hea hb
        cases hev : evB (dk, ms) day with
        | false =>
          have HEV := Lib.hid hev
          rw [evB_at _ _ _ hday0] at hev
          have cst := step_bad HBK.out HPM.out (HSV.out.below HB.out) HLE.out hev
          clear hev hday0
          go_wp2_with fail
          refine cst.mono ?_
          rintro e W11 ⟨rfl, hb11⟩
          have HB11 := Lib.hid hb11
          have HW11 := Lib.hid (HB.out.trans (hb11.mono HB.out.size))
          replace hc0' := (HW11.out.cell (p := ⟨b, off + k * 2, none⟩) HC0.out.2).trans HC0.out.1
          replace hcu' := (HW11.out.cell (p := ⟨b, off + k * 2 + 1, none⟩) HC1.out.2).trans HC1.out.1
          have ce := refevent_any dk day (.slice An nn cn) ms W11 (HSV.out.below HW11.out) HLE.out
          rw [HEV.out] at ce
          clear cst hb11
          go_wp2_with fail
          refine ce.mono ?_
          rintro e W12 ⟨rfl, hb12⟩
          have HB12 := Lib.hid (HB11.out.trans (hb12.mono HB11.out.size))
          have HW12 := Lib.hid (HB.out.trans (HB12.out.mono HB.out.size))
          clear ce hb12 hc0' hcu'
          go_wp2
          go_roundw
          case rel => exact ⟨k + 1, seen, day, by omega, by go_num, rfl, HSR.out.below HB12.out, HVA.out, by have := HSL.out; omega, HLD.out, HPM.out.later HB12.out, HBK.out.below HB12.out, HW12.out, Nat.le_trans HN9.out HB12.out.size⟩
          case measure => simp [intOf]; omega
        | true =>
          have HEV := Lib.hid hev
          rw [evB_at _ _ _ hday0] at hev
          simp only [Bool.and_eq_true, decide_eq_true_eq] at hev
          have HD2 := Lib.hid (And.intro hev.1.1 hev.1.2)
          have hsl1 := Nat.le_trans HSL.out (show k ≤ 1000 by have := HLN.out; omega)
          have cst := step_mon HBK.out HPM.out HNB.out HSH2.out (StrV.strX HSV.out HB.out HGE.out) HLE.out hev.2 hev.1.1 (by omega) hev.1.2 (daysOk_to HVA.out) hsl1
          have HVS := Lib.hid (valTo_snoc HVA.out (d := dk) (ms := ms) (by rw [HLD.out]; exact hev.1.1) hev.1.2 hev.2)
          have HLS := Lib.hid (lastDay_snoc seen (dk, ms))
          have HS1 := Lib.hid hsl1
          clear hev hday0 hsl1
          go_wp2_with fail
          refine cst.mono ?_
          rintro e W11 ⟨rfl, hpm11, hbk11, hfr11⟩
          have HPM11 := Lib.hid hpm11
          have HBK11 := Lib.hid hbk11
          have HW11 := Lib.hid (HB.out.trans (hfr11.belowOf HB.out.size HGE.out))
          have HSR11 := Lib.hid (HSR.out.fr hfr11 (fun x hx => by have := HLT9.out x hx; omega))
          have HN11 := Lib.hid (Nat.le_trans HN9.out hfr11.size)
          replace hc0' := (HW11.out.cell (p := ⟨b, off + k * 2, none⟩) HC0.out.2).trans HC0.out.1
          replace hcu' := (HW11.out.cell (p := ⟨b, off + k * 2 + 1, none⟩) HC1.out.2).trans HC1.out.1
          have ce := refevent_any dk day (.slice An nn cn) ms W11 (HSV.out.below HW11.out) HLE.out
          rw [HEV.out] at ce
          obtain ⟨sp, hsp⟩ : ∃ sp : Bool × Unit, t.says (seen ++ [(dk, ms)]) seen.length = sp.1 := ⟨(_, ()), rfl⟩
          have HSP := Lib.hid hsp
          rw [hsp]
          clear cst hpm11 hbk11 hfr11 hsp
          go_wp2_with fail
          refine ce.mono ?_
          rintro e W12 ⟨rfl, hb12⟩
          have HW12 := Lib.hid (HW11.out.trans (hb12.mono HW11.out.size))
          have HPM12 := Lib.hid (HPM11.out.later hb12)
          have HBK12 := Lib.hid (HBK11.out.below hb12)
          have HN12 := Lib.hid (Nat.le_trans HN11.out hb12.size)
          obtain ⟨us, hu1, hu2, hu3⟩ := HSR11.out.below hb12
          have HU1 := Lib.hid hu1
          have HU2 := Lib.hid hu2
          have HU3 := Lib.hid hu3
          have HC0' := Lib.hid ((HW12.out.cell (p := ⟨b, off + k * 2, none⟩) HC0.out.2).trans HC0.out.1)
          have HC1' := Lib.hid ((HW12.out.cell (p := ⟨b, off + k * 2 + 1, none⟩) HC1.out.2).trans HC1.out.1)
          clear ce hb12 hc0' hcu' hu1 hu2 hu3 HSR11 HPM11 HBK11
          go_upto_region 15 with fail
          have HBL := Lib.hid (show b < W12.heap.size from Nat.lt_of_lt_of_le HC0.out.2 HW12.out.size)
          have hs1 := HS1.out
          refine Lex.wp_region_lex (fun w' => w'.cell? ⟨b, off + k * 2, none⟩ = some (.int .i64 dk) ∧ w'.cell? ⟨b, off + k * 2 + 1, none⟩ = some (.slice An nn cn)) (fun _ => true)
            [(0, true), (1, true), (2, true), (3, true), (4, true), (7, true), (8, true), (9, true), (10, true), (11, true), (5, false), (6, false), (12, false), (13, false)]
            (by kernel_rfl) (by kernel_rfl) (by kernel_rfl) (by kernel_rfl) ⟨HC0'.out, HC1'.out⟩ ?_
          have hb0 : Below W12.heap.size W12 W12.drew := ⟨rfl, rfl, rfl, Nat.le_refl _, fun _ _ => rfl⟩
          have hw0 : Below W6.heap.size W6 W12.drew := ⟨HW12.out.os, HW12.out.tape, HW12.out.output, HW12.out.size, HW12.out.block⟩
          generalize hV0 : W12.drew = V0 at *
          clear hV0
          iterate 10 (refine Lex.lex_take (v := ?_) rfl rfl (by rfl) (fun _ hS => ?_) ?_; rotate_left 1; (focus (have g0 := hS.1; have g1 := hS.2; clear hS; go_simp; with_reducible rfl)); simp only [List.setIfInBounds_toArray, List.set_cons_zero, List.set_cons_succ])
          refine Lex.lex_do rfl ?_
          go_wp2_with fail
          refine Lex.lexQ_normal (fun _ => ⟨((hb0.alloc hb0.size _).cell (p := ⟨b, off + k * 2, none⟩) HBL.out).trans HC0'.out, ((hb0.alloc hb0.size _).cell (p := ⟨b, off + k * 2 + 1, none⟩) HBL.out).trans HC1'.out⟩) ?_
          refine Lex.lex_do rfl ?_
          obtain ⟨W13, hW13⟩ : ∃ W13, W13 = V0.alloc (.cells #[.int .i64 dk, .slice An nn cn] 38) := ⟨_, rfl⟩
          have HB13 := Lib.hid (show Below W12.heap.size W12 W13 by rw [hW13]; exact hb0.alloc hb0.size _)
          have HU13 := Lib.hid (row_below HU2.out (fun b _ hl => HB13.out.block b hl))
          have HN13 := Lib.hid (show W13.heap[V0.heap.size]? = some (.cells #[.int .i64 dk, .slice An nn cn] 38 (0, 0)) by rw [hW13]; exact heap_alloc_new V0 _)
          have HL13 := Lib.hid (show N9 ≤ W13.heap.size from Nat.le_trans HN12.out HB13.out.size)
          rw [← hW13]
          clear hW13 hb0 hw0
          refine wpList_app Tryz.underlying23 info_ev rfl (by omega) (by omega) _ rfl _ _ rfl N9 _ seen.length (flatE seen us) rfl HU13.out V0.heap.size #[.int .i64 dk, .slice An nn cn] rfl HN13.out rfl (by simp [Value.oneCell']) (by omega) HL13.out _ rfl ?_
          intro g cap w1 hown hg hgb hgl
          have HMO := Lib.hid (OwnEvI.more us HU1.out HU3.out HSV.out hown)
          have HOB := Lib.hid (show ∀ x, (Value.slice As seen.length cs).ownBlock = some x → N9 ≤ x from fun x e => (HU2.out.lt x e).1)
          have HW13 := Lib.hid (HW12.out.trans (HB13.out.mono HW12.out.size))
          have HW1 := Lib.hid (show Below W6.heap.size W6 w1 from HW13.out.trans ⟨hg.os, hg.tape, hg.output, hg.size, fun q hq => hg.block q (Nat.lt_of_lt_of_le hq HW13.out.size) (fun e => by have := HOB.out q e.symm; have := HL10.out.1; omega)⟩)
          have HPM1 := Lib.hid ((HPM12.out.later HB13.out).keep hg.size (fun x hx => hg.block x ((HPM12.out.later HB13.out).lt x hx) (fun e => by have h1 := HOB.out x e.symm; have h2 := HLT9.out x (List.mem_cons_of_mem _ hx); omega)))
          have HBK1 := Lib.hid ((HBK12.out.below HB13.out).grown hg (fun e => by have h1 := HOB.out P e; have h2 := HLT9.out P (List.mem_cons_self ..); omega))
          have HN1 := Lib.hid (Nat.le_trans HL13.out hg.size)
          have HCW0 := Lib.hid ((HW1.out.cell (p := ⟨b, off + k * 2, none⟩) HC0.out.2).trans HC0.out.1)
          have HCW1 := Lib.hid ((HW1.out.cell (p := ⟨b, off + k * 2 + 1, none⟩) HC1.out.2).trans HC1.out.1)
          clear hown hg hgb
          go_wp2_with fail
          refine Lex.lexQ_normal (fun _ => ⟨HCW0.out, HCW1.out⟩) ?_
          refine Lex.lex_do rfl ?_
          go_wp2_with fail
          refine Lex.lexQ_normal (fun _ => ⟨HCW0.out, HCW1.out⟩) ?_
          refine Lex.lex_do rfl ?_
          go_wp2_with fail
          refine Lex.lexQ_normal (fun _ => ⟨HCW0.out, HCW1.out⟩) ?_
          refine Lex.lex_nil ?_
          clear HC0' HC1' HU13 HN13 HPM12 HBK12
          have HXw := Lib.hid (HX6.out.below HW1.out)
          have k0 := HXw.out.cell 0
          have k1 := HXw.out.cell 1
          have k2 := HXw.out.cell 2
          have k3 := HXw.out.cell 3
          have cw := HKW2.out w1 _ _ HW1.out (HMO.out.evV HW1.out HL10.out.1) HVS.out (by have h1 := HSL.out; have h2 := HLN.out; rw [List.length_append, List.length_singleton]; omega)
          go_wp2_with fail
          refine cw.mono ?_
          rintro e W16 ⟨v16, rfl, hbo, hb16⟩
          have hget := BoolN.get hbo.boolV (j := seen.length) (by rw [HWL.out]; simp)
          rw [HWL.out, List.length_append, List.length_singleton] at hget
          obtain ⟨b16, o16, c16, rfl, hlt16, hc16⟩ := hget
          have q16 := hc16 seen.length (by omega)
          rw [HWG.out _ _ (by simp), HSP.out] at q16
          have HPM16 := Lib.hid (HPM1.out.later hb16)
          have HBK16 := Lib.hid (HBK1.out.below hb16)
          have HSR16 := Lib.hid (HMO.out.below hb16)
          have HW16 := Lib.hid (HW1.out.trans (hb16.mono HW1.out.size))
          have HN16 := Lib.hid (Nat.le_trans HN1.out hb16.size)
          have ck := HCK.out W16 _ _ HBK16.out HPM16.out
          have hne : (sp.1 != sp.1) = false := by simp
          clear cw hbo hb16 hc16 k0 k1 k2 k3
          go_wp2_with fail
          refine ck.mono ?_
          rintro e w' ⟨rfl, rfl⟩
          clear ck q16
          go_wp2
          go_roundw
          case rel => exact ⟨k + 1, seen ++ [(dk, ms)], dk, by omega, by go_num, rfl, HSR16.out, HVS.out, by have := HSL.out; rw [List.length_append, List.length_singleton]; omega, HLS.out, HPM16.out, HBK16.out, HW16.out, HN16.out⟩
          case measure => simp [intOf]; omega
      · obtain rfl : m5 = k := by omega
        have HBF := Lib.hid (HW6.out.trans (HB.out.mono HW6.out.size))
        go_wp2
        go_ret
        exact ⟨rfl, HBF.out⟩
end Go.Proofs.YtobpacebpiabcaaGreatDoor
