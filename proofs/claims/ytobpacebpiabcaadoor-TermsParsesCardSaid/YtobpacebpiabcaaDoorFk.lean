/- ref's Parse: its contract (printed by expand.py). -/
import Derived.Test.YtobpacebpiabcaaDoorFj
namespace Go.Proofs.YtobpacebpiabcaaDoor
open Go.RowKit Go.Lib

set_option maxRecDepth 100000 in
set_option maxHeartbeats 12800000 in
theorem rparse_any (l : List UInt8) (w : World) (hs : l.length ≤ 1000000) : Calls Tryd.prog 26 #[.string ⟨l.toArray⟩] w (RetParse l w) := by
  have HPL := Lib.hid (show 2000 < l.length → ∀ e w', e = .returned (.tuple #[.agg #[.int .i64 0, .string ⟨#[]⟩, .int .i64 0, .slice none 0 0], .int .i64 3]) → Below w.heap.size w w' → RetParse l w e w' from fun h e w' he hb => .inr ⟨.inr h, by rw [if_pos h]; exact he, hb⟩)
  have HPF := Lib.hid (show ¬ 2000 < l.length → parseT l = none → ∀ e w', e = .returned (.tuple #[.agg #[.int .i64 0, .string ⟨#[]⟩, .int .i64 0, .slice none 0 0], .int .i64 2]) → Below w.heap.size w w' → RetParse l w e w' from fun h hp e w' he hb => .inr ⟨.inl hp, by rw [if_neg h]; exact he, hb⟩)
  have HPK := Lib.hid (show l.length ≤ 2000 → ∀ t v e w', parseT l = some t → e = .returned (.tuple #[v, .int .i64 0]) → TmV (fun b => w.heap.size ≤ b) w' v t → Below w.heap.size w w' → RetParse l w e w' from fun h t v e w' hp he ht hb => .inl ⟨t, v, hp, h, he, ht, hb⟩)
  generalize hPost : RetParse l w = Post at *
  obtain ⟨n, hn⟩ : ∃ n, l.length = n := ⟨_, rfl⟩
  have hsz : (⟨l.toArray⟩ : ByteArray).size = n := by show l.toArray.size = _; simpa using hn
  have HN := Lib.hid hn
  have cr := fun W => rterm_any 66 65 l 65 W (by omega) (by omega) hs rfl
  obtain ⟨W1, hW1⟩ : ∃ W1, W1 = w.alloc (.cells #[.int .i64 0, .string ⟨#[]⟩, .int .i64 0, .slice none 0 0] 26) := ⟨_, rfl⟩
  have HW1 := Lib.hid (show Below w.heap.size w W1 by rw [hW1]; exact (Below.refl _ _).alloc (Nat.le_refl _) _)
  have HZ1 := Lib.hid (show Blk W1 w.heap.size #[.int .i64 0, .string ⟨#[]⟩, .int .i64 0, .slice none 0 0] 26 by rw [hW1]; exact Blk.new _ _ _)
  clear hPost hn hs
  by_cases hlong : 2000 < n
  · have d1 : (2000 : Int) < (n : Int) := by omega
    have HLG := Lib.hid (show 2000 < l.length by rw [HN.out]; exact hlong)
    clear cr
    go_enter Tryd.func26, Tryd.ntmps26
    go_upto_region 1 with fail
    rw [← hW1]
    clear hW1
    have z0 := HZ1.out.cell 0
    have z1 := HZ1.out.cell 1
    have z2 := HZ1.out.cell 2
    have z3 := HZ1.out.cell 3
    have g0 := HZ1.out.free 0
    have g1 := HZ1.out.free 1
    have g2 := HZ1.out.free 2
    have g3 := HZ1.out.free 3
    have HE := Lib.hid (HZ1.out.set4 (.int .i64 0) (.string ⟨#[]⟩) (.int .i64 0) (.slice none 0 0))
    have HEB := Lib.hid (below_set4' HW1.out (Nat.le_refl _) (.int .i64 0) (.string ⟨#[]⟩) (.int .i64 0) (.slice none 0 0))
    go_wp2
    have r0 := HE.out.cell 0
    have r1 := HE.out.cell 1
    have r2 := HE.out.cell 2
    have r3 := HE.out.cell 3
    refine bodyPost_ret (v := .tuple #[.agg #[.int .i64 0, .string ⟨#[]⟩, .int .i64 0, .slice none 0 0], .int .i64 3]) ?_ rfl (HPL.out HLG.out _ _ rfl HEB.out)
    simp [set4] at r0 r1 r2 r3
    simp [results, Tryd.results26, go_sem, r0, r1, r2, r3]
  have d1 : decide ((2000 : Int) < (n : Int)) = false := decide_eq_false (by omega)
  have HSH := Lib.hid (show ¬ 2000 < l.length by rw [HN.out]; exact hlong)
  clear hlong
  go_enter Tryd.func26, Tryd.ntmps26
  go_upto_region 1 with fail
  rw [← hW1]
  clear hW1
  have cc := cr W1
  go_wp2_with fail
  refine cc.mono ?_
  rintro e W2 h2
  clear cc cr d1
  rcases h2 with ⟨t, rest, v, hr, rfl, ⟨u, rfl, hu⟩, hb2⟩ | ⟨k', nm', n', A', q', c', r', hr, rfl, hb2⟩
  · obtain ⟨A, m, c, rfl, -⟩ := hu.open'
    have HR := Lib.hid hr
    obtain ⟨hfit, hcnt⟩ := rt_fit _ _ _ _ hr
    have HLO := Lib.hid (show w.heap.size + 1 ≤ W1.heap.size from HZ1.out.lt)
    have HKA := Lib.hid (hu.mono (T := fun b => w.heap.size + 1 ≤ b) (fun b hb _ => Nat.le_trans HLO.out hb))
    have HW2 := Lib.hid (HW1.out.trans (hb2.mono HW1.out.size))
    have HZ2 := Lib.hid (HZ1.out.below hb2)
    go_upto_region 4 with fail
    obtain ⟨W3, hW3⟩ : ∃ W3, W3 = W2.alloc (.cells #[.int .i64 t.1, .string ⟨t.2.1.toArray⟩, .int .i64 t.2.2.1, .slice A m c] 26) := ⟨_, rfl⟩
    have hb3 : Below W2.heap.size W2 W3 := by rw [hW3]; exact (Below.refl _ _).alloc (Nat.le_refl _) _
    have HX3 := Lib.hid (show Blk W3 W2.heap.size #[.int .i64 t.1, .string ⟨t.2.1.toArray⟩, .int .i64 t.2.2.1, .slice A m c] 26 by rw [hW3]; exact Blk.new _ _ _)
    rw [← hW3]
    clear hW3
    have HW3 := Lib.hid (HW2.out.trans (hb3.mono HW2.out.size))
    have HZ3 := Lib.hid (HZ2.out.below hb3)
    have HK3 := Lib.hid (HKA.out.below hb3)
    have cv := refvalid_any (w := W3) (v := .agg #[.int .i64 t.1, .string ⟨t.2.1.toArray⟩, .int .i64 t.2.2.1, .slice A m c]) (t := t) ⟨_, rfl, HK3.out⟩ hfit (by have := HSH.out; omega)
    have HTX := Lib.hid (show t.ok = true → ∀ W, Below W3.heap.size W3 W → Calls Tryd.prog 50 #[.agg #[.int .i64 t.1, .string ⟨t.2.1.toArray⟩, .int .i64 t.2.2.1, .slice A m c]] W (RetW (.string ⟨t.tx.toArray⟩) W) from fun ho W hb => rtext_any _ t _ _ W (Nat.lt_succ_self _) ⟨_, rfl, HK3.out.below hb⟩ (by have h := Tm.ok_shp ho; rw [fo_shp, h.1, h.2.1]; rfl) (by have h := (Tm.ok_shp ho).2.2; rw [fo_cnt]; omega))
    have HTM := Lib.hid (show t = (t.1, t.2.1, t.2.2.1, t.2.2.2) from rfl)
    have HOKD := Lib.hid (show t.ok = t.ok from rfl)
    clear hr hu hb2 hb3 hfit hcnt
    by_cases hre : rest = []
    case neg =>
      have HRN := Lib.hid (show parseT l = none from by rw [← refP_eq]; unfold refP; rw [HR.out]; simp [hre])
      have d2 : (rest == []) = false := beq_eq_false_iff_ne.2 hre
      have d2' : (rest != []) = true := bne_iff_ne.2 hre
      clear hre cv
      have z0 := HZ3.out.cell 0
      have z1 := HZ3.out.cell 1
      have z2 := HZ3.out.cell 2
      have z3 := HZ3.out.cell 3
      have g0 := HZ3.out.free 0
      have g1 := HZ3.out.free 1
      have g2 := HZ3.out.free 2
      have g3 := HZ3.out.free 3
      have HE := Lib.hid (HZ3.out.set4 (.int .i64 0) (.string ⟨#[]⟩) (.int .i64 0) (.slice none 0 0))
      have HEB := Lib.hid (below_set4' HW3.out (Nat.le_refl _) (.int .i64 0) (.string ⟨#[]⟩) (.int .i64 0) (.slice none 0 0))
      go_wp2
      have r0 := HE.out.cell 0
      have r1 := HE.out.cell 1
      have r2 := HE.out.cell 2
      have r3 := HE.out.cell 3
      refine bodyPost_ret (v := .tuple #[.agg #[.int .i64 0, .string ⟨#[]⟩, .int .i64 0, .slice none 0 0], .int .i64 2]) ?_ rfl (HPF.out HSH.out HRN.out _ _ rfl HEB.out)
      simp [set4] at r0 r1 r2 r3
      simp [results, Tryd.results26, go_sem, r0, r1, r2, r3]
    subst hre
    cases hok : t.ok with
    | false =>
      have HRN := Lib.hid (show parseT l = none from by rw [← refP_eq]; unfold refP; rw [HR.out]; simp [hok])
      rw [hok] at cv
      clear hok
      generalize t.1 = k' at *
      generalize t.2.1 = nm' at *
      generalize t.2.2.1 = n' at *
      have x0 := HX3.out.cell 0
      have x1 := HX3.out.cell 1
      have x2 := HX3.out.cell 2
      have x3 := HX3.out.cell 3
      go_wp2_with fail
      refine cv.mono ?_
      rintro e W4 ⟨rfl, hb4⟩
      have HW4 := Lib.hid (HW3.out.trans (hb4.mono HW3.out.size))
      have HZ4 := Lib.hid (HZ3.out.below hb4)
      clear cv hb4 x0 x1 x2 x3
      have z0 := HZ4.out.cell 0
      have z1 := HZ4.out.cell 1
      have z2 := HZ4.out.cell 2
      have z3 := HZ4.out.cell 3
      have g0 := HZ4.out.free 0
      have g1 := HZ4.out.free 1
      have g2 := HZ4.out.free 2
      have g3 := HZ4.out.free 3
      have HE := Lib.hid (HZ4.out.set4 (.int .i64 0) (.string ⟨#[]⟩) (.int .i64 0) (.slice none 0 0))
      have HEB := Lib.hid (below_set4' HW4.out (Nat.le_refl _) (.int .i64 0) (.string ⟨#[]⟩) (.int .i64 0) (.slice none 0 0))
      go_wp2
      have r0 := HE.out.cell 0
      have r1 := HE.out.cell 1
      have r2 := HE.out.cell 2
      have r3 := HE.out.cell 3
      refine bodyPost_ret (v := .tuple #[.agg #[.int .i64 0, .string ⟨#[]⟩, .int .i64 0, .slice none 0 0], .int .i64 2]) ?_ rfl (HPF.out HSH.out HRN.out _ _ rfl HEB.out)
      simp [set4] at r0 r1 r2 r3
      simp [results, Tryd.results26, go_sem, r0, r1, r2, r3]
    | true =>
      have HOK := Lib.hid hok
      have HTX2 := Lib.hid (HTX.out hok)
      rw [hok] at cv
      have HPS := Lib.hid (show t.tx = l → parseT l = some t from fun h => parseT_some.2 ⟨hok, h⟩)
      have HPN := Lib.hid (show t.tx ≠ l → parseT l = none from fun h => by rw [← refP_eq]; unfold refP; rw [HR.out]; simp [h])
      clear hok HTX
      generalize htt : t.tx = tx at *
      clear htt
      generalize hk' : t.1 = k' at *
      generalize hnm' : t.2.1 = nm' at *
      generalize hn' : t.2.2.1 = n' at *
      have HT := Lib.hid (And.intro hk' (And.intro hnm' hn'))
      clear hk' hnm' hn'
      have x0 := HX3.out.cell 0
      have x1 := HX3.out.cell 1
      have x2 := HX3.out.cell 2
      have x3 := HX3.out.cell 3
      go_wp2_with fail
      refine cv.mono ?_
      rintro e W4 ⟨rfl, hb4⟩
      have HW4 := Lib.hid (HW3.out.trans (hb4.mono HW3.out.size))
      have HZ4 := Lib.hid (HZ3.out.below hb4)
      have HX4 := Lib.hid (HX3.out.below hb4)
      have HK4 := Lib.hid (HK3.out.below hb4)
      have ct := HTX2.out W4 hb4
      clear cv hb4 x0 x1 x2 x3
      have x0 := HX4.out.cell 0
      have x1 := HX4.out.cell 1
      have x2 := HX4.out.cell 2
      have x3 := HX4.out.cell 3
      by_cases htx : tx = l
      · have d3 : (tx == l) = true := beq_iff_eq.2 htx
        have d3' : (tx != l) = false := by rw [bne, d3]; rfl
        have HPO := Lib.hid (HPS.out htx)
        clear htx
        go_wp2_with fail
        refine ct.mono ?_
        rintro e W5 ⟨rfl, hb5⟩
        have HW5 := Lib.hid (HW4.out.trans (hb5.mono HW4.out.size))
        have HZ5 := Lib.hid (HZ4.out.below hb5)
        have HX5 := Lib.hid (HX4.out.below hb5)
        have HK5 := Lib.hid (HK4.out.below hb5)
        clear ct hb5 x0 x1 x2 x3
        have x0 := HX5.out.cell 0
        have x1 := HX5.out.cell 1
        have x2 := HX5.out.cell 2
        have x3 := HX5.out.cell 3
        have HKE := Lib.hid ((HK5.out.set4 (B := w.heap.size) (fun b hb e => by omega) (.int .i64 k') (.string ⟨nm'.toArray⟩) (.int .i64 n') (.slice A m c)).mono (T := fun b => w.heap.size ≤ b) (fun b hb _ => by omega))
        have z0 := HZ5.out.cell 0
        have z1 := HZ5.out.cell 1
        have z2 := HZ5.out.cell 2
        have z3 := HZ5.out.cell 3
        have g0 := HZ5.out.free 0
        have g1 := HZ5.out.free 1
        have g2 := HZ5.out.free 2
        have g3 := HZ5.out.free 3
        have HE := Lib.hid (HZ5.out.set4 (.int .i64 k') (.string ⟨nm'.toArray⟩) (.int .i64 n') (.slice A m c))
        have HEB := Lib.hid (below_set4' HW5.out (Nat.le_refl _) (.int .i64 k') (.string ⟨nm'.toArray⟩) (.int .i64 n') (.slice A m c))
        go_wp2
        have r0 := HE.out.cell 0
        have r1 := HE.out.cell 1
        have r2 := HE.out.cell 2
        have r3 := HE.out.cell 3
        refine bodyPost_ret (v := .tuple #[.agg #[.int .i64 k', .string ⟨nm'.toArray⟩, .int .i64 n', .slice A m c], .int .i64 0]) ?_ rfl (HPK.out (by have := HSH.out; omega) t _ _ _ HPO.out rfl ⟨.slice A m c, by rw [HT.out.1, HT.out.2.1, HT.out.2.2], HKE.out⟩ HEB.out)
        simp [set4] at r0 r1 r2 r3
        simp [results, Tryd.results26, go_sem, r0, r1, r2, r3]
      · have d3 : (tx == l) = false := beq_eq_false_iff_ne.2 htx
        have d3' : (tx != l) = true := bne_iff_ne.2 htx
        have HRN := Lib.hid (HPN.out htx)
        clear htx
        go_wp2_with fail
        refine ct.mono ?_
        rintro e W5 ⟨rfl, hb5⟩
        have HW5 := Lib.hid (HW4.out.trans (hb5.mono HW4.out.size))
        have HZ5 := Lib.hid (HZ4.out.below hb5)
        clear ct hb5 x0 x1 x2 x3
        have z0 := HZ5.out.cell 0
        have z1 := HZ5.out.cell 1
        have z2 := HZ5.out.cell 2
        have z3 := HZ5.out.cell 3
        have g0 := HZ5.out.free 0
        have g1 := HZ5.out.free 1
        have g2 := HZ5.out.free 2
        have g3 := HZ5.out.free 3
        have HE := Lib.hid (HZ5.out.set4 (.int .i64 0) (.string ⟨#[]⟩) (.int .i64 0) (.slice none 0 0))
        have HEB := Lib.hid (below_set4' HW5.out (Nat.le_refl _) (.int .i64 0) (.string ⟨#[]⟩) (.int .i64 0) (.slice none 0 0))
        go_wp2
        have r0 := HE.out.cell 0
        have r1 := HE.out.cell 1
        have r2 := HE.out.cell 2
        have r3 := HE.out.cell 3
        refine bodyPost_ret (v := .tuple #[.agg #[.int .i64 0, .string ⟨#[]⟩, .int .i64 0, .slice none 0 0], .int .i64 2]) ?_ rfl (HPF.out HSH.out HRN.out _ _ rfl HEB.out)
        simp [set4] at r0 r1 r2 r3
        simp [results, Tryd.results26, go_sem, r0, r1, r2, r3]
  · have HRN := Lib.hid (show parseT l = none from by rw [← refP_eq]; unfold refP; rw [hr])
    have HW2 := Lib.hid (HW1.out.trans (hb2.mono HW1.out.size))
    have HZ2 := Lib.hid (HZ1.out.below hb2)
    go_upto_region 4 with fail
    obtain ⟨W3, hW3⟩ : ∃ W3, W3 = W2.alloc (.cells #[.int .i64 k', .string ⟨nm'.toArray⟩, .int .i64 n', .slice A' q' c'] 26) := ⟨_, rfl⟩
    have hb3 : Below W2.heap.size W2 W3 := by rw [hW3]; exact (Below.refl _ _).alloc (Nat.le_refl _) _
    rw [← hW3]
    clear hW3
    have HW3 := Lib.hid (HW2.out.trans (hb3.mono HW2.out.size))
    have HZ3 := Lib.hid (HZ2.out.below hb3)
    clear hr hb2 hb3
    have z0 := HZ3.out.cell 0
    have z1 := HZ3.out.cell 1
    have z2 := HZ3.out.cell 2
    have z3 := HZ3.out.cell 3
    have g0 := HZ3.out.free 0
    have g1 := HZ3.out.free 1
    have g2 := HZ3.out.free 2
    have g3 := HZ3.out.free 3
    have HE := Lib.hid (HZ3.out.set4 (.int .i64 0) (.string ⟨#[]⟩) (.int .i64 0) (.slice none 0 0))
    have HEB := Lib.hid (below_set4' HW3.out (Nat.le_refl _) (.int .i64 0) (.string ⟨#[]⟩) (.int .i64 0) (.slice none 0 0))
    go_wp2
    have r0 := HE.out.cell 0
    have r1 := HE.out.cell 1
    have r2 := HE.out.cell 2
    have r3 := HE.out.cell 3
    refine bodyPost_ret (v := .tuple #[.agg #[.int .i64 0, .string ⟨#[]⟩, .int .i64 0, .slice none 0 0], .int .i64 2]) ?_ rfl (HPF.out HSH.out HRN.out _ _ rfl HEB.out)
    simp [set4] at r0 r1 r2 r3
    simp [results, Tryd.results26, go_sem, r0, r1, r2, r3]
end Go.Proofs.YtobpacebpiabcaaDoor
