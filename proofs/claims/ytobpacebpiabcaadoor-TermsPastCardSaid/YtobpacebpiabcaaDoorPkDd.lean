/- Texts Dd Dw in one. -/
import Derived.Test.YtobpacebpiabcaaDoorCi
import Derived.Test.YtobpacebpiabcaaDoorPkDfb
import Derived.Test.YtobpacebpiabcaaDoorCk
import Derived.Test.YtobpacebpiabcaaDoorPkBs
import Derived.Test.YtobpacebpiabcaaDoorBn
namespace Go.Proofs.YtobpacebpiabcaaDoor
open Go.RowKit Go.Lib

/-- Does Holds answer? -/
def ansB (t : Tm) (log : List Ev) (i : Int) : Bool := t.ok && logB log && decide (0 ≤ i) && decide (i < log.length)
def ansV (t : Tm) (log : List Ev) (i : Int) : Bool := ansB t log i && t.says log i.toNat
def ansE (t : Tm) (log : List Ev) (i : Int) : Int := if ansB t log i then 0 else 1
theorem ansE_no {t : Tm} {log : List Ev} {i : Int} (h : ansB t log i = false) : ansV t log i = false ∧ ansE t log i = 1 := by
  unfold ansV ansE
  rw [h]
  exact ⟨rfl, rfl⟩
theorem ansE_yes {t : Tm} {log : List Ev} {i : Int} (h : ansB t log i = true) : ansV t log i = t.says log i.toNat ∧ ansE t log i = 0 := by
  unfold ansV ansE
  rw [h]
  exact ⟨Bool.true_and _, rfl⟩
set_option maxHeartbeats 6400000 in
theorem holdsat_any {S : Nat → Prop} {w : World} {v u : Value} {t : Tm} {log : List Ev} (h : TmV S w v t) (hf : t.fo.fit) (hl : EvV w u log) (hlf : EvFit log) (i : Int) (hi : I64 i) : Calls Tryd.prog 29 #[v, u, .int .i64 i] w (RetW (.tuple #[.bool (ansV t log i), .int .i64 (ansE t log i)]) w) := by
  obtain ⟨ku, rfl, hku⟩ := h
  obtain ⟨A, m, c, rfl, -⟩ := hku.open'
  obtain ⟨W3, hW3⟩ : ∃ W3, W3 = w.alloc (.cells #[.int .i64 t.1, .string ⟨t.2.1.toArray⟩, .int .i64 t.2.2.1, .slice A m c] 26) := ⟨_, rfl⟩
  have hB : Below w.heap.size w W3 := by rw [hW3]; exact (Below.refl _ _).alloc (Nat.le_refl _) _
  have HB := Lib.hid hB
  have HX := Lib.hid (show Blk W3 w.heap.size #[.int .i64 t.1, .string ⟨t.2.1.toArray⟩, .int .i64 t.2.2.1, .slice A m c] 26 by rw [hW3]; exact Blk.new _ _ _)
  have cw := watch_any (w := W3) (show TmV S W3 _ t from ⟨_, rfl, hku.below hB⟩) hf (hl.below hB) hlf
  have HN := Lib.hid (show ansB t log i = false → ∀ e w', e = .returned (.tuple #[.bool false, .int .i64 1]) → Below w.heap.size w w' → RetW (.tuple #[.bool (ansV t log i), .int .i64 (ansE t log i)]) w e w' from fun h1 e w' h2 h3 => ⟨by rw [h2, (ansE_no h1).1, (ansE_no h1).2], h3⟩)
  have HY := Lib.hid (show ansB t log i = true → ∀ e w', e = .returned (.tuple #[.bool (t.says log i.toNat), .int .i64 0]) → Below w.heap.size w w' → RetW (.tuple #[.bool (ansV t log i), .int .i64 (ansE t log i)]) w e w' from fun h1 e w' h2 h3 => ⟨by rw [h2, (ansE_yes h1).1, (ansE_yes h1).2], h3⟩)
  have HA := Lib.hid (show ansB t log i = (t.ok && logB log && decide (0 ≤ i) && decide (i < log.length)) from rfl)
  obtain ⟨AL, nl, cl', rfl⟩ : ∃ AL nl cl', u = .slice AL nl cl' := by obtain ⟨A, c, h, _⟩ := hl; exact ⟨A, _, c, h⟩
  have HI := Lib.hid hi
  generalize hP : RetW (.tuple #[.bool (ansV t log i), .int .i64 (ansE t log i)]) w = Post at *
  clear hP hku hl hlf hf hB hi
  have k0 := HX.out.cell 0
  have k1 := HX.out.cell 1
  have k2 := HX.out.cell 2
  have k3 := HX.out.cell 3
  go_enter Tryd.func29, Tryd.ntmps29
  go_upto_region 1 with fail
  rw [← hW3]
  clear hW3
  go_wp2_with fail
  refine cw.mono ?_
  rintro e W5 (⟨ho, hlb, v5, rfl, hv5, hb5⟩ | ⟨hno, rfl, hb5⟩)
  rotate_left
  · have HW5 := Lib.hid (HB.out.trans (hb5.mono HB.out.size))
    clear cw hb5 k0 k1 k2 k3
    go_wp2
    exact HN.out (by rw [HA.out, hno]; rfl) _ _ rfl HW5.out
  have HW5 := Lib.hid (HB.out.trans (hb5.mono HB.out.size))
  have hwl : (t.watch log).length = log.length := by unfold Tm.watch; simp
  have hbv : BoolV W5 v5 (t.watch log) := hv5.boolV
  obtain ⟨A5, c5, rfl, hc5, hm5, _, hr5⟩ := hbv
  rw [hwl] at hc5 ⊢
  have hm5' : c5 ≤ 9223372036854775807 := by unfold maxLen at hm5; omega
  clear cw hb5 k0 k1 k2 k3 hv5 hm5
  obtain ⟨n, hn⟩ : ∃ n, log.length = n := ⟨_, rfl⟩
  rw [hn] at hc5 ⊢
  by_cases hi0 : i < 0
  · have HF := Lib.hid (show ansB t log i = false by rw [HA.out, show decide (0 ≤ i) = false by rw [decide_eq_false_iff_not]; omega]; simp)
    have d0 : decide (i < 0) = true := by rw [decide_eq_true_eq]; exact hi0
    clear hr5
    go_wp2
    exact HN.out HF.out _ _ rfl HW5.out
  · by_cases hin : (n : Int) ≤ i
    · have HF := Lib.hid (show ansB t log i = false by rw [HA.out, show decide (i < log.length) = false by rw [decide_eq_false_iff_not]; omega]; simp)
      clear hr5
      go_wp2
      exact HN.out HF.out _ _ rfl HW5.out
    · obtain ⟨q, rfl⟩ : ∃ q : Nat, i = (q : Int) := ⟨i.toNat, by omega⟩
      have hq : q < n := by omega
      have HF := Lib.hid (show ansB t log q = true by
        rw [HA.out, ho, hlb, show decide ((0 : Int) ≤ q) = true by rw [decide_eq_true_eq]; omega, show decide ((q : Int) < log.length) = true by rw [decide_eq_true_eq]; omega]; rfl)
      rcases hr5 with hr5 | ⟨b, off, rfl, _, hlt, hc⟩
      · rw [hr5] at hwl
        simp at hwl
        omega
      have hcq := hc q (.bool (t.says log q)) (by unfold Tm.watch; simp [hn, hq])
      have hHY := Lib.hid (HY.out HF.out _ W5 rfl HW5.out)
      clear hc
      go_wp2
      exact hHY.out
end Go.Proofs.YtobpacebpiabcaaDoor

namespace Go.Proofs.YtobpacebpiabcaaDoor
open Go.RowKit Go.Lib

theorem RetWatch.no {t : Tm} {log : List Ev} {w : World} {e : Ending} {w' : World} (h : RetWatch t log w e w') (hn : (t.ok && logB log) = false) : e = .returned (.tuple #[.slice none 0 0, .int .i64 1]) ∧ Below w.heap.size w w' := by
  rcases h with ⟨h1, h2, _⟩ | ⟨_, h1, h2⟩
  · rw [h1, h2] at hn; cases hn
  · exact ⟨h1, h2⟩
theorem RetWatch.yes {t : Tm} {log : List Ev} {w : World} {e : Ending} {w' : World} (h : RetWatch t log w e w') (hn : (t.ok && logB log) = true) : ∃ v, e = .returned (.tuple #[v, .int .i64 0]) ∧ BoolO w' w.heap.size v (t.watch log) ∧ Below w.heap.size w w' := by
  rcases h with ⟨_, _, h⟩ | ⟨h, _⟩
  · exact h
  · rw [h] at hn; cases hn
theorem ok_shp2 {t : Tm} (h : t.ok = true) : t.fo.shp = true := by
  unfold Tm.ok at h
  rw [Bool.and_eq_true] at h
  exact h.1
theorem ansB_no {t : Tm} {log : List Ev} (i : Int) (hn : (t.ok && logB log) = false) : ansB t log i = false := by
  unfold ansB; rw [hn]; rfl
theorem ansB_yes {t : Tm} {log : List Ev} (i : Int) (hn : (t.ok && logB log) = true) : ansB t log i = (decide (0 ≤ i) && decide (i < log.length)) := by
  unfold ansB; rw [hn]; rfl
set_option maxHeartbeats 6400000 in
theorem watches_any {B0 N0 : Nat} {l : List Nd} {log : List Ev} {u v : Value} {w : World} (hu : NodesV N0 w u l) (hN : N0 ≤ w.heap.size) (hf : NdFit l) (hv : EvV w v log) (hlf : DaysFit log) (i : Int) (hi : I64 i) (hL : LibOk B0 w) : Calls Tryd.prog 7 #[u, v, .int .i64 i] w (RetW (.bool true) w) := by
  have cb := bigbuild_any hu hN hf
  have HF := Lib.hid (show ∀ W, Below w.heap.size w W → Calls Tryd.prog 16 #[v, .int .i64 40] W (RetEvO (fewM log 40) W) from fun W hb => few_any (hv.below hb) 40 (by omega))
  have HL := Lib.hid (show ∀ W, Below w.heap.size w W → Calls Tryd.prog 13 #[] W (RetW (.bool true) W) from fun W hb => lives_any B0 W (hL.below hb))
  have HEF := Lib.hid (fewM_fit hlf 40)
  have HI := Lib.hid hi
  obtain ⟨A1, m1, c1, rfl⟩ : ∃ A m c, u = .slice A m c := by obtain ⟨A, c, h, _⟩ := hu; exact ⟨A, _, c, h⟩
  obtain ⟨A2, m2, c2, rfl⟩ : ∃ A m c, v = .slice A m c := by obtain ⟨A, c, h, _⟩ := hv; exact ⟨A, _, c, h⟩
  clear hu hN hf hv hlf hL hi
  generalize fewM log 40 = lg at *
  go_enter Tryd.func7, Tryd.ntmps7
  go_wp2_with fail
  refine cb.mono ?_
  rintro e W4 ⟨t, v4, rfl, htm, hsm, hb4⟩
  have HB4 := Lib.hid hb4
  have HT := Lib.hid htm
  have HSM := Lib.hid hsm
  obtain ⟨u4, rfl, hk4⟩ := htm
  obtain ⟨A3, m3, c3, rfl, -⟩ := hk4.open'
  have cf := HF.out W4 HB4.out
  clear cb hsm hb4 hk4
  go_wp2_with fail
  refine cf.mono ?_
  rintro e W5 ⟨v5, rfl, hown, hb5⟩
  have HE := Lib.hid (hown.evV)
  obtain ⟨A5, m5, c5, rfl, hm5⟩ : ∃ A m c, v5 = .slice A m c ∧ m = lg.length := by obtain ⟨A, c, h, _⟩ := HE.out; exact ⟨A, _, c, h, rfl⟩
  have HM5 := Lib.hid hm5
  have HW5 := Lib.hid (HB4.out.trans (hb5.mono HB4.out.size))
  have HT5 := Lib.hid (HT.out.below hb5)
  clear cf hown hb5 hm5
  go_upto_region 2 with fail
  obtain ⟨W6, hW6⟩ : ∃ W6, W6 = W5.alloc (.cells #[.int .i64 t.1, .string ⟨t.2.1.toArray⟩, .int .i64 t.2.2.1, .slice A3 m3 c3] 26) := ⟨_, rfl⟩
  have hb6 : Below W5.heap.size W5 W6 := by rw [hW6]; exact (Below.refl _ _).alloc (Nat.le_refl _) _
  have HX := Lib.hid (show Blk W6 W5.heap.size #[.int .i64 t.1, .string ⟨t.2.1.toArray⟩, .int .i64 t.2.2.1, .slice A3 m3 c3] 26 by rw [hW6]; exact Blk.new _ _ _)
  rw [← hW6]
  clear hW6
  have HW6 := Lib.hid (HW5.out.trans (hb6.mono HW5.out.size))
  have HT6 := Lib.hid (HT5.out.below hb6)
  have HE6 := Lib.hid (HE.out.below hb6)
  have HK1 := Lib.hid (show ∀ W, Below W6.heap.size W6 W → Calls Tryd.prog 12 #[.agg #[.int .i64 t.1, .string ⟨t.2.1.toArray⟩, .int .i64 t.2.2.1, .slice A3 m3 c3], .slice A5 m5 c5] W (RetWatch t lg W) from fun W hb => watch_any (HT6.out.below hb) HSM.out.1 (HE6.out.below hb) HEF.out)
  have HK2 := Lib.hid (show ∀ W, Below W6.heap.size W6 W → Calls Tryd.prog 22 #[.agg #[.int .i64 t.1, .string ⟨t.2.1.toArray⟩, .int .i64 t.2.2.1, .slice A3 m3 c3]] W (RetW (.bool t.ok) W) from fun W hb => refvalid_any (HT6.out.below hb) HSM.out.1 (by have := HSM.out.2; omega))
  have HK3 := Lib.hid (show ∀ W, Below W6.heap.size W6 W → Calls Tryd.prog 29 #[.agg #[.int .i64 t.1, .string ⟨t.2.1.toArray⟩, .int .i64 t.2.2.1, .slice A3 m3 c3], .slice A5 m5 c5, .int .i64 i] W (RetW (.tuple #[.bool (ansV t lg i), .int .i64 (ansE t lg i)]) W) from fun W hb => holdsat_any (HT6.out.below hb) HSM.out.1 (HE6.out.below hb) HEF.out i HI.out)
  have HK4 := Lib.hid (show ∀ W, Below W6.heap.size W6 W → Calls Tryd.prog 24 #[.slice A5 m5 c5] W (RetW (.bool (logB lg)) W) from fun W hb => lawvalid_any (HE6.out.below hb) HEF.out)
  have HK5 := Lib.hid (show (t.ok && logB lg) = true → ∀ W, Below W6.heap.size W6 W → Calls Tryd.prog 30 #[.agg #[.int .i64 t.1, .string ⟨t.2.1.toArray⟩, .int .i64 t.2.2.1, .slice A3 m3 c3], .slice A5 m5 c5] W (RetBoolO (t.watch lg) W) from fun ho W hb => by
    rw [Bool.and_eq_true] at ho
    exact rwatch_any (HT6.out.below hb) (ok_shp2 ho.1) (HE6.out.below hb) ho.2)
  clear HT HT5 HT6 HE HE6 HW5 HB4 HF HEF hb6
  have HRF := Lib.hid (Below.refl W6.heap.size W6)
  have HWL := Lib.hid (show (t.watch lg).length = m5 by rw [HM5.out]; simp [Tm.watch])
  have HWG := Lib.hid (show ∀ q, q < m5 → (t.watch lg).getD q false = t.says lg q from fun q hq => watch_get t lg q (by rw [← HM5.out]; exact hq))
  generalize t.1 = kk at *
  generalize t.2.1 = knm at *
  generalize t.2.2.1 = kn at *
  have k0 := HX.out.cell 0
  have k1 := HX.out.cell 1
  have k2 := HX.out.cell 2
  have k3 := HX.out.cell 3
  have c1' := HK1.out W6 HRF.out
  cases hob : (t.ok && logB lg) with
  | false =>
    have HOB := Lib.hid hob
    have hab : ansB t lg i = false := ansB_no i hob
    have c3' := fun W hb => HK3.out W hb
    rw [(ansE_no hab).1, (ansE_no hab).2] at c3'
    have HK3' := Lib.hid c3'
    have HOK := Lib.hid (show t.ok = true → logB lg = false from fun h => by rw [h] at hob; exact hob)
    clear hab c3' hob HK3
    go_wp2_with fail
    refine c1'.mono ?_
    rintro e W7 hr
    obtain ⟨rfl, hb7⟩ := hr.no HOB.out
    have HB7 := Lib.hid hb7
    clear c1' k0 k1 k2 k3 hb7 hr
    have HX7 := Lib.hid (HX.out.below HB7.out)
    have k0 := HX7.out.cell 0
    have k1 := HX7.out.cell 1
    have k2 := HX7.out.cell 2
    have k3 := HX7.out.cell 3
    have c3' := HK3'.out W7 HB7.out
    go_wp2_with fail
    refine c3'.mono ?_
    rintro e W8 ⟨rfl, hb8⟩
    have HB8 := Lib.hid (HB7.out.trans (hb8.mono HB7.out.size))
    clear c3' hb8
    clear k0 k1 k2 k3
    have HX8 := Lib.hid (HX.out.below HB8.out)
    have k0 := HX8.out.cell 0
    have k1 := HX8.out.cell 1
    have k2 := HX8.out.cell 2
    have k3 := HX8.out.cell 3
    have c2' := HK2.out W8 HB8.out
    generalize hok : t.ok = ok at *
    cases ok
    · skip
      go_wp2_with fail
      refine c2'.mono ?_
      rintro e W9 ⟨rfl, hb9⟩
      have HB9 := Lib.hid (HB8.out.trans (hb9.mono HB8.out.size))
      clear c2' hb9
      have cl := HL.out W9 (HW6.out.trans (HB9.out.mono HW6.out.size))
      clear k0 k1 k2 k3
      go_wp2_with fail
      refine cl.mono ?_
      rintro e W10 ⟨rfl, hb10⟩
      have HBF := Lib.hid (HW6.out.trans ((HB9.out.trans (hb10.mono HB9.out.size)).mono HW6.out.size))
      clear cl hb10
      go_wp2
      go_ret
      exact ⟨rfl, HBF.out⟩
    · skip
      go_wp2_with fail
      refine c2'.mono ?_
      rintro e W9 ⟨rfl, hb9⟩
      have HB9 := Lib.hid (HB8.out.trans (hb9.mono HB8.out.size))
      clear c2' hb9
      have c4' := HK4.out W9 HB9.out
      rw [HOK.out (by simp)] at c4'
      clear k0 k1 k2 k3
      go_wp2_with fail
      refine c4'.mono ?_
      rintro e W10 ⟨rfl, hb10⟩
      have HB10 := Lib.hid (HB9.out.trans (hb10.mono HB9.out.size))
      clear c4' hb10
      have cl := HL.out W10 (HW6.out.trans (HB10.out.mono HW6.out.size))
      go_wp2_with fail
      refine cl.mono ?_
      rintro e W11 ⟨rfl, hb11⟩
      have HBF := Lib.hid (HW6.out.trans ((HB10.out.trans (hb11.mono HB10.out.size)).mono HW6.out.size))
      clear cl hb11
      go_wp2
      go_ret
      exact ⟨rfl, HBF.out⟩
  | true =>
    have HOB := Lib.hid hob
    have HAB := Lib.hid (ansB_yes i hob)
    have HOK := Lib.hid (show t.ok = true ∧ logB lg = true by rw [Bool.and_eq_true] at hob; exact hob)
    clear hob
    go_wp2_with fail
    refine c1'.mono ?_
    rintro e W7 hr
    obtain ⟨v7, rfl, hbo7, hb7⟩ := hr.yes HOB.out
    have HB7 := Lib.hid hb7
    have HBO := Lib.hid hbo7.boolV
    clear c1' k0 k1 k2 k3 hb7 hr hbo7
    obtain ⟨A7, c7, rfl, -⟩ := HBO.out
    have HX7 := Lib.hid (HX.out.below HB7.out)
    have k0 := HX7.out.cell 0
    have k1 := HX7.out.cell 1
    have k2 := HX7.out.cell 2
    have k3 := HX7.out.cell 3
    have c3' := HK3.out W7 HB7.out
    generalize hAV : ansV t lg i = av at *
    generalize hAE : ansE t lg i = ae at *
    have HAV := Lib.hid hAV
    have HAE := Lib.hid hAE
    clear hAV hAE
    have HBO7 := Lib.hid HBO.out
    clear HBO
    go_wp2_with fail
    refine c3'.mono ?_
    rintro e W8 ⟨rfl, hb8⟩
    have HB8 := Lib.hid (HB7.out.trans (hb8.mono HB7.out.size))
    have HBO8 := Lib.hid (BoolN.below HBO7.out hb8)
    clear c3' hb8
    clear k0 k1 k2 k3
    have HX8 := Lib.hid (HX.out.below HB8.out)
    have k0 := HX8.out.cell 0
    have k1 := HX8.out.cell 1
    have k2 := HX8.out.cell 2
    have k3 := HX8.out.cell 3
    have c2' := HK2.out W8 HB8.out
    rw [HOK.out.1] at c2'
    go_wp2_with fail
    refine c2'.mono ?_
    rintro e W9 ⟨rfl, hb9⟩
    have HB9 := Lib.hid (HB8.out.trans (hb9.mono HB8.out.size))
    have HBO9 := Lib.hid (BoolN.below HBO8.out hb9)
    clear c2' hb9
    have c4' := HK4.out W9 HB9.out
    rw [HOK.out.2] at c4'
    clear k0 k1 k2 k3
    go_wp2_with fail
    refine c4'.mono ?_
    rintro e W10 ⟨rfl, hb10⟩
    have HB10 := Lib.hid (HB9.out.trans (hb10.mono HB9.out.size))
    have HBO10 := Lib.hid (BoolN.below HBO9.out hb10)
    clear c4' hb10
    have HX10 := Lib.hid (HX.out.below HB10.out)
    have k0 := HX10.out.cell 0
    have k1 := HX10.out.cell 1
    have k2 := HX10.out.cell 2
    have k3 := HX10.out.cell 3
    have c5' := HK5.out HOB.out W10 HB10.out
    go_wp2_with fail
    refine c5'.mono ?_
    rintro e W11 ⟨v11, rfl, hbo11, hb11⟩
    have HB11 := Lib.hid (HB10.out.trans (hb11.mono HB10.out.size))
    have HBQ11 := Lib.hid hbo11.boolV
    have HBO11 := Lib.hid (BoolN.below HBO10.out hb11)
    have HG := Lib.hid (fun q (hq : q < (t.watch lg).length) => BoolN.get HBQ11.out hq)
    rw [HWL.out] at HG
    obtain ⟨A11, c11, rfl, hc11, hcm11, -⟩ := HBQ11.out
    unfold maxLen at hcm11
    have c6' := bools_any HBO11.out HBQ11.out
    rw [show decide (t.watch lg = t.watch lg) = true from decide_eq_true rfl] at c6'
    rw [HWL.out] at c6' hc11 ⊢
    clear c5' k0 k1 k2 k3 hb11 hbo11 HBQ11 HBO11 HBO10 HBO9 HBO8 HBO7
    go_wp2_with fail
    refine c6'.mono ?_
    rintro e W12 ⟨rfl, hb12⟩
    have HB12 := Lib.hid (HB11.out.trans (hb12.mono HB11.out.size))
    have HQ12 := Lib.hid hb12
    clear c6' hb12
    have cl := HL.out W12 (HW6.out.trans (HB12.out.mono HW6.out.size))
    go_wp2_with fail
    refine cl.mono ?_
    rintro e W13 ⟨rfl, hb13⟩
    have HBF := Lib.hid (HW6.out.trans ((HB12.out.trans (hb13.mono HB12.out.size)).mono HW6.out.size))
    have HQ13 := Lib.hid (HQ12.out.trans (hb13.mono HQ12.out.size))
    clear cl hb13
    by_cases hi0 : i < 0
    · have d0 : decide (i < 0) = true := by rw [decide_eq_true_eq]; exact hi0
      have hab : ansB t lg i = false := by rw [HAB.out, ← HM5.out]; rw [show decide (0 ≤ i) = false by rw [decide_eq_false_iff_not]; omega]; rfl
      obtain rfl : false = av := by rw [← HAV.out, (ansE_no hab).1]
      obtain rfl : 1 = ae := by rw [← HAE.out, (ansE_no hab).2]
      clear hab
      go_wp2
      go_ret
      exact ⟨rfl, HBF.out⟩
    · by_cases hin : (m5 : Int) ≤ i
      · skip
        have hab : ansB t lg i = false := by rw [HAB.out, ← HM5.out]; rw [show decide (i < (m5 : Int)) = false by rw [decide_eq_false_iff_not]; omega, Bool.and_false]
        obtain rfl : false = av := by rw [← HAV.out, (ansE_no hab).1]
        obtain rfl : 1 = ae := by rw [← HAE.out, (ansE_no hab).2]
        clear hab
        go_wp2
        go_ret
        exact ⟨rfl, HBF.out⟩
      · obtain ⟨q, rfl⟩ : ∃ q : Nat, i = (q : Int) := ⟨i.toNat, by omega⟩
        have hq : q < m5 := by omega
        have hab : ansB t lg q = true := by rw [HAB.out, ← HM5.out, show decide ((0 : Int) ≤ q) = true by rw [decide_eq_true_eq]; omega, show decide ((q : Int) < m5) = true by rw [decide_eq_true_eq]; omega]; rfl
        obtain rfl : t.says lg q = av := by rw [← HAV.out, (ansE_yes hab).1]; rfl
        obtain rfl : 0 = ae := by rw [← HAE.out, (ansE_yes hab).2]
        obtain ⟨b, off, cx, hsl, hb, hc⟩ := HG.out q hq
        injection hsl with hs1 _ hs3
        subst hs1 hs3
        have hcq := (HQ13.out.cell (p := ⟨b, off + q, none⟩) hb).trans (hc q hq)
        rw [HWG.out q hq] at hcq
        have hq0 : (0 : Int) ≤ (q : Int) := by omega
        have hqn : (q : Int) < (m5 : Int) := by omega
        clear hc hab
        generalize t.says lg q = sq at *
        go_wp2
        go_ret
        exact ⟨rfl, HBF.out⟩
end Go.Proofs.YtobpacebpiabcaaDoor
