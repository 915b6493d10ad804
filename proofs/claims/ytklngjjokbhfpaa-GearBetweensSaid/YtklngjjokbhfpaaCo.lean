/- ref's round and Between (printed by genco.py). -/
import Derived.Test.YtklngjjokbhfpaaCl
namespace Go.Proofs.Ytklngjjokbhfpaa
open Go.RowKit

/-- What a fraction with denominator d between two says of the simplest one. -/
theorem betw_from {p q r s f t d : Int} {y : Int × Int} (h : BetwOk p q r s y) (hq : 1 ≤ q) (hs : 1 ≤ s) (hd : 1 ≤ d) (hf : f = -((-p * d) / q)) (ht : t = (r * d) / s) :
    p * d ≤ f * q ∧ t * s ≤ r * d ∧ (d < y.2 → t < f) ∧ (d = y.2 → f ≤ y.1 ∧ y.1 ≤ t) := by
  have e1 := Int.ediv_mul_le (-p * d) (show q ≠ 0 by omega)
  have e2 := Int.ediv_mul_le (r * d) (show s ≠ 0 by omega)
  rw [← ht] at e2
  have e3 : p * d ≤ f * q := by rw [hf, Int.neg_mul]; rw [Int.neg_mul] at e1; rw [Int.neg_mul]; omega
  refine ⟨e3, e2, fun hlt => ?_, fun he => ?_⟩
  · by_cases hft : f ≤ t
    · have h1 : f * s ≤ t * s := Int.mul_le_mul_of_nonneg_right hft (by omega)
      have := (h.least f d hd e3 (by omega)).1
      omega
    · omega
  · subst he
    constructor
    · have : -y.1 ≤ (-p * y.2) / q := (Int.le_ediv_iff_mul_le (by omega)).2 (by have := h.lo; rw [Int.neg_mul, Int.neg_mul]; omega)
      omega
    · rw [ht]
      exact (Int.le_ediv_iff_mul_le (by omega)).2 h.hi
theorem betw_num {p q r s f t d : Int} {y : Int × Int} (h : BetwOk p q r s y) (hq : 1 ≤ q) (hs : 1 ≤ s) (hd : 1 ≤ d) (hf : f = -((-p * d) / q)) (ht : t = (r * d) / s) (he : d = y.2) :
    (f ≤ 0 → 0 ≤ t → y.1 = 0) ∧ (0 < f → y.1 = f) ∧ (t < 0 → y.1 = t) := by
  obtain ⟨e1, e2, -, e4⟩ := betw_from h hq hs hd hf ht
  obtain ⟨f1, f2⟩ := e4 he
  have hs2 : f * s ≤ t * s := Int.mul_le_mul_of_nonneg_right (by omega) (by omega)
  have hq2 : f * q ≤ t * q := Int.mul_le_mul_of_nonneg_right (by omega) (by omega)
  have l1 := (h.least f d hd e1 (by omega)).2
  have l2 := (h.least t d hd (by omega) e2).2
  refine ⟨fun a b => ?_, fun a => by omega, fun a => by omega⟩
  have g1 : f * q ≤ 0 := Int.mul_nonpos_of_nonpos_of_nonneg a (by omega)
  have g2 : 0 ≤ t * s := Int.mul_nonneg b (by omega)
  have := (h.least 0 d hd (by omega) (by omega)).2
  omega
/-- A quotient by a denominator that is not below the factor. -/
theorem quot_bd {p q d : Int} (hp : p.natAbs ≤ 4611686018427387904) (hd : 1 ≤ d) (hdq : d ≤ q) : -4611686018427387904 ≤ p * d / q ∧ p * d / q ≤ 4611686018427387904 := by
  have hq : 0 < q := by omega
  constructor
  · refine (Int.le_ediv_iff_mul_le hq).2 ?_
    have h1 : -(p.natAbs : Int) * d ≤ p * d := Int.mul_le_mul_of_nonneg_right (by omega) (by omega)
    have h2 : -4611686018427387904 * d ≤ -(p.natAbs : Int) * d := Int.mul_le_mul_of_nonneg_right (by omega) (by omega)
    omega
  · have h1 : p * d ≤ (p.natAbs : Int) * d := Int.mul_le_mul_of_nonneg_right (by omega) (by omega)
    have h2 : (p.natAbs : Int) * d ≤ 4611686018427387904 * d := Int.mul_le_mul_of_nonneg_right (by omega) (by omega)
    have : p * d / q < 4611686018427387904 + 1 := Int.ediv_lt_of_lt_mul hq (by omega)
    omega

set_option maxHeartbeats 400000 in
theorem is_same (a b e : Int) (w : World) : Calls Try.prog 14 #[.agg #[.int .i64 a, .int .i64 b], .int .i64 e, .agg #[.int .i64 a, .int .i64 b], .int .i64 e] w (RetV (.bool true) w) := by
  go_enter Try.func14, Try.ntmps14
  go_wp2
  go_ret
  exact ⟨by simp, ((Below.refl _ _).alloc (Nat.le_refl _) _).alloc (by simp) _⟩
theorem is_w (a b e : Int) {w : World} : ∀ W (_ : Below w.heap.size w W), Calls Try.prog 14 #[.agg #[.int .i64 a, .int .i64 b], .int .i64 e, .agg #[.int .i64 a, .int .i64 b], .int .i64 e] W (RetW (.bool true) W) := fun W _ => (is_same a b e W).mono fun e w' h => RetW.of h

set_option maxRecDepth 100000 in
set_option maxHeartbeats 1600000 in
theorem rround_any {w : World} {u : Value} {p q : Int} {N : Nat} (hu : IsRQ w u p q N) (hN : N ≤ 200) (hq : 0 < q) (hb1 : -4611686018427387904 ≤ p / q) (hb2 : p / q ≤ 4611686018427387904) :
    Calls Try.prog 40 #[u] w (RetV (.int .i64 (p / q)) w) := by
  obtain ⟨pa0, A0, n0, c0, pb0, B0, m0, d0, rfl, hp0, hq0⟩ := hu.open'
  have cd : ∀ W, Below w.heap.size w W → Calls Try.prog 62 #[.agg #[.bool pa0.1, .slice A0 n0 c0], .agg #[.bool pb0.1, .slice B0 m0 d0]] W (RetDM p q (N + 1) (N + 3) W) := fun W hb => rdivmod_any (hp0.below hb) (hq0.below hb) (by omega) (by omega) hq
  have hsv : smallV (p / q) = .tuple #[.int .i64 (p / q), .bool true] := by unfold smallV; rw [if_pos ⟨hb1, hb2⟩]
  have cs : ∀ W (_ : Below w.heap.size w W) v, IsR W v (p / q) (N + 1) → Calls Try.prog 69 #[v] W (RetW (.tuple #[.int .i64 (p / q), .bool true]) W) := fun W _ v h => by
    have := rsmall_any h (by omega)
    rw [hsv] at this
    exact this.mono fun e w' h => RetW.of h
  clear hu hp0 hq0 hb1 hb2 hsv
  obtain ⟨W3, hW3⟩ : ∃ W3, W3 = (w.alloc (.cells #[.bool pa0.1, .slice A0 n0 c0, .bool pb0.1, .slice B0 m0 d0] 35)) := ⟨_, rfl⟩
  have hB : Below w.heap.size w W3 := by rw [hW3]; exact ((Below.refl _ _).alloc (Nat.le_refl _) _)
  have HBW := Lib.hid hB
  have HF := Lib.hid (show Four W3 (w.heap.size) (.bool pa0.1) (.slice A0 n0 c0) (.bool pb0.1) (.slice B0 m0 d0) 35 by rw [hW3]; exact (Four.newAt _ _ _ _ _ _ _ (by simp)))
  clear hB
  go_enter Try.func40, Try.ntmps40
  go_upto_region 1 with fail
  rw [← hW3]
  clear hW3
  have k0 := HF.out.cell0
  have k1 := HF.out.cell1
  have k2 := HF.out.cell2
  have k3 := HF.out.cell3
  have cc := cd _ HBW.out
  go_wp2_with fail
  refine cc.mono ?_
  rintro e V1 ⟨v1, v2, rfl, h1, h2, hn1⟩
  clear cc cd k0 k1 k2 k3
  obtain ⟨p5, A5, n5, c5, rfl⟩ := h1.agg'
  obtain ⟨p6, A6, n6, c6, rfl⟩ := h2.agg'
  generalize p / q = z at *
  generalize p % q = zr at *
  obtain ⟨U, hU⟩ : ∃ U, U = (V1.alloc (.cells #[.bool p5.1, .slice A5 n5 c5] 33)).alloc (.cells #[.bool p6.1, .slice A6 n6 c6] 33) := ⟨_, rfl⟩
  have hbV : Below V1.heap.size V1 U := by rw [hU]; exact ((Below.refl _ _).alloc (Nat.le_refl _) _).alloc (by simp) _
  have T1 : Two U V1.heap.size (.bool p5.1) (.slice A5 n5 c5) 33 := by rw [hU]; exact (Two.newAt _ _ _ _ _ rfl).alloc _
  have hz := h1.below hbV
  have hw := HBW.out.trans ((hn1.trans (hbV.mono hn1.size)).mono HBW.out.size)
  have k0 := T1.cell0
  have k1 := T1.cell1
  have c2 := cs U hw _ hz
  have HW := Lib.hid hw
  clear hn1 hbV T1 h1 h2 hz hw cs
  go_upto_region 2 with fail
  rw [← hU]
  clear hU
  go_wp2_with fail
  refine c2.mono ?_
  rintro e V2 ⟨v2, rfl, hm2, hn2⟩
  subst hm2
  have HE := Lib.hid (HW.out.trans (hn2.mono HW.out.size))
  clear c2 hn2
  go_wp2
  go_ret
  exact ⟨rfl, HE.out⟩

set_option maxRecDepth 100000 in
set_option maxHeartbeats 3200000 in
theorem rbetween_any {p q r s y1 y2 : Int} (h1 : FOk (p, q)) (h2 : FOk (r, s)) (h : BetwOk p q r s (y1, y2)) (w : World) :
    Calls Try.prog 18 #[.agg #[.int .i64 p, .int .i64 q], .agg #[.int .i64 r, .int .i64 s], .int .i64 200] w (RetV (if y2 ≤ 200 then .tuple #[.agg #[.int .i64 y1, .int .i64 y2], .bool true] else .tuple #[.agg #[.int .i64 0, .int .i64 0], .bool false]) w) := by
  have hq : 1 ≤ q := h1.1
  have hs : 1 ≤ s := h2.1
  have hq2 : q ≤ 4611686018427387904 := h1.2.1
  have hs2 : s ≤ 4611686018427387904 := h2.2.1
  have hp : p.natAbs ≤ 4611686018427387904 := h1.2.2.1
  have hr : r.natAbs ≤ 4611686018427387904 := h2.2.2.1
  have hy : 1 ≤ y2 := h.ok.1
  have hle : p * s ≤ r * q := by
    have e1 := h.lo
    have e2 := h.hi
    simp only at e1 e2
    have f1 : p * y2 * s ≤ y1 * q * s := Int.mul_le_mul_of_nonneg_right e1 (by omega)
    have f2 : y1 * s * q ≤ r * y2 * q := Int.mul_le_mul_of_nonneg_right e2 (by omega)
    have f3 : p * s * y2 ≤ r * q * y2 := by
      rw [Int.mul_right_comm p s y2, Int.mul_right_comm r q y2]
      rw [Int.mul_right_comm y1 s q] at f2
      omega
    exact Int.le_of_mul_le_mul_right f3 (by omega)
  have hyq : y2 ≤ q := (h.least p q hq (Int.le_refl _) hle).1
  have hys : y2 ≤ s := (h.least r s hs hle (Int.le_refl _)).1
  generalize hrv : (if y2 ≤ 200 then .tuple #[.agg #[.int .i64 y1, .int .i64 y2], .bool true] else .tuple #[.agg #[.int .i64 0, .int .i64 0], .bool false] : Value) = rv
  have HV1 := Lib.hid (show y2 ≤ 200 → rv = .tuple #[.agg #[.int .i64 y1, .int .i64 y2], .bool true] from fun g => by rw [← hrv, if_pos g])
  have HV2 := Lib.hid (show ¬ y2 ≤ 200 → rv = .tuple #[.agg #[.int .i64 0, .int .i64 0], .bool false] from fun g => by rw [← hrv, if_neg g])
  clear hrv
  have cO1 := of_w h1.neg (w := w)
  have cO2 := of_w h2 (w := w)
  have u1 : IntKind.i64.wrap (-p) = -p := IntWalk.i64_in _ (by omega)
  have HH := Lib.hid h
  have HQ := Lib.hid (show 1 ≤ q ∧ 1 ≤ s ∧ y2 ≤ q ∧ y2 ≤ s ∧ p.natAbs ≤ 4611686018427387904 ∧ r.natAbs ≤ 4611686018427387904 from ⟨hq, hs, hyq, hys, hp, hr⟩)
  clear h hle h1 h2 hyq hys hq hs hp hr hq2 hs2
  obtain ⟨W3, hW3⟩ : ∃ W3, W3 = (((w.alloc (.cells #[.int .i64 p, .int .i64 q] 23)).alloc (.cells #[.int .i64 r, .int .i64 s] 23)).alloc (.cells #[.int .i64 0, .int .i64 0] 23)) := ⟨_, rfl⟩
  have hB : Below w.heap.size w W3 := by rw [hW3]; exact ((((Below.refl _ _).alloc (Nat.le_refl _) _).alloc (by simp; try omega) _).alloc (by simp; try omega) _)
  have HBW := Lib.hid hB
  have HF := Lib.hid (show Two W3 (w.heap.size) (.int .i64 p) (.int .i64 q) 23 by rw [hW3]; exact (((((Two.newAt _ _ _ _ _ (by simp))).alloc _)).alloc _))
  have HG := Lib.hid (show Two W3 (w.heap.size + 1) (.int .i64 r) (.int .i64 s) 23 by rw [hW3]; exact (((Two.newAt _ _ _ _ _ (by simp))).alloc _))
  have HR := Lib.hid (show Two W3 (w.heap.size + 1 + 1) (.int .i64 0) (.int .i64 0) 23 by rw [hW3]; exact (Two.newAt _ _ _ _ _ (by simp)))
  clear hB
  go_enter Try.func18, Try.ntmps18
  go_upto_region 1 with fail
  rw [← hW3]
  clear hW3
  go_wp2
  go_loopw [8] (fun i wr => ∃ d : Nat, 1 ≤ d ∧ d ≤ 201 ∧ (d : Int) ≤ y2 ∧ i = .int .i64 d ∧ Two wr w.heap.size (.int .i64 p) (.int .i64 q) 23 ∧ Two wr (w.heap.size + 1) (.int .i64 r) (.int .i64 s) 23 ∧ Two wr (w.heap.size + 1 + 1) (.int .i64 0) (.int .i64 0) 23 ∧ Below w.heap.size w wr) (fun i _ => 201 - (intOf i).toNat)
  case atStart => exact ⟨1, by omega, by omega, hy, rfl, HF.out, HG.out, HR.out, HBW.out⟩
  case round =>
    clear HF HG HR HBW
    obtain ⟨d, hd1, hd2, hdy, rfl, TF, TG, TR, hbl⟩ := hrel
    have HF := Lib.hid TF
    have HG := Lib.hid TG
    have HR := Lib.hid TR
    have HBW := Lib.hid hbl
    clear TF TG TR hbl
    by_cases hgo : d ≤ 200
    · have d0 : decide ((d : Int) ≤ 200) = true := decide_eq_true (by omega)
      have d0n : decide (d ≤ 200) = true := decide_eq_true hgo
      obtain ⟨hq, hs, hyq, hys, hp, hr⟩ := HQ.out
      obtain ⟨f0, hf0⟩ : ∃ f0, f0 = -p * d / q := ⟨_, rfl⟩
      obtain ⟨t, ht⟩ : ∃ t, t = r * d / s := ⟨_, rfl⟩
      obtain ⟨f, hf⟩ : ∃ f, f = -f0 := ⟨_, rfl⟩
      have b1 := quot_bd (p := -p) (q := q) (d := d) (by simpa using hp) (by omega) (by omega)
      have b2 := quot_bd (p := r) (q := s) (d := d) hr (by omega) (by omega)
      rw [← hf0] at b1
      rw [← ht] at b2
      have hfrom := betw_from (f := f) (t := t) (d := d) HH.out hq hs (by omega) (by rw [hf, hf0]) ht
      have hnum := betw_num (f := f) (t := t) (d := d) HH.out hq hs (by omega) (by rw [hf, hf0]) ht
      simp only at hfrom hnum
      have cW : ∀ W (_ : Below w.heap.size w W), Calls Try.prog 42 #[.int .i64 (d : Int)] W (RetRQ d 1 5 W) := fun W _ => whole_any d W ⟨by omega, by omega⟩
      have cM1 : ∀ W (_ : Below w.heap.size w W) u v, IsRQ W u (-p) q 5 → IsRQ W v d 1 5 → Calls Try.prog 41 #[u, v] W (RetRQ (-p * d) (q * 1) 11 W) := fun W _ u v g1 g2 => rmulq_any g1 g2 (by omega) (by omega)
      have cM2 : ∀ W (_ : Below w.heap.size w W) u v, IsRQ W u r s 5 → IsRQ W v d 1 5 → Calls Try.prog 41 #[u, v] W (RetRQ (r * d) (s * 1) 11 W) := fun W _ u v g1 g2 => rmulq_any g1 g2 (by omega) (by omega)
      rw [Int.mul_one] at cM1 cM2
      have cR1 : ∀ W (_ : Below w.heap.size w W) u, IsRQ W u (-p * d) q 11 → Calls Try.prog 40 #[u] W (RetW (.int .i64 f0) W) := fun W _ u g1 => by
        have := rround_any g1 (by omega) (by omega) (by rw [← hf0]; exact b1.1) (by rw [← hf0]; exact b1.2)
        rw [← hf0] at this
        exact this.mono fun e w' h => RetW.of h
      have cR2 : ∀ W (_ : Below w.heap.size w W) u, IsRQ W u (r * d) s 11 → Calls Try.prog 40 #[u] W (RetW (.int .i64 t) W) := fun W _ u g1 => by
        have := rround_any g1 (by omega) (by omega) (by rw [← ht]; exact b2.1) (by rw [← ht]; exact b2.2)
        rw [← ht] at this
        exact this.mono fun e w' h => RetW.of h
      have u2 : IntKind.i64.wrap (-f0) = f := by rw [hf]; exact IntWalk.i64_in _ (by omega)
      have HN := Lib.hid hnum
      have HFR := Lib.hid hfrom
      clear hf ht hf0 hnum hfrom b1 b2 hq hs hyq hys hp hr
      have k0_0 := HF.out.cell0
      have k0_1 := HF.out.cell1
      have k1_0 := HG.out.cell0
      have k1_1 := HG.out.cell1
      have hb0 := Below.refl wr.heap.size wr
      have hw0 := HBW.out
      have cc := cO1 wr hw0
      go_wp2_with fail
      refine cc.mono ?_
      rintro e V1 ⟨v1, rfl, hm1, hn1⟩
      have hb1 := hb0.trans (hn1.mono hb0.size)
      have hw1 := hw0.trans (hn1.mono hw0.size)
      clear cc hb0 hw0 hn1
      clear k0_0 k0_1 k1_0 k1_1
      have k0_0 := (HF.out.below hb1 HF.out.lt).cell0
      have k0_1 := (HF.out.below hb1 HF.out.lt).cell1
      have k1_0 := (HG.out.below hb1 HG.out.lt).cell0
      have k1_1 := (HG.out.below hb1 HG.out.lt).cell1
      have cc := cW V1 hw1
      go_wp2_with fail
      refine cc.mono ?_
      rintro e V2 ⟨v2, rfl, hm2, hn2⟩
      have hb2 := hb1.trans (hn2.mono hb1.size)
      have hw2 := hw1.trans (hn2.mono hw1.size)
      have hm1 := hm1.below hn2
      clear cc hb1 hw1 hn2
      clear k0_0 k0_1 k1_0 k1_1
      have k0_0 := (HF.out.below hb2 HF.out.lt).cell0
      have k0_1 := (HF.out.below hb2 HF.out.lt).cell1
      have k1_0 := (HG.out.below hb2 HG.out.lt).cell0
      have k1_1 := (HG.out.below hb2 HG.out.lt).cell1
      have cc := cM1 V2 hw2 _ _ hm1 hm2
      go_wp2_with fail
      refine cc.mono ?_
      rintro e V3 ⟨v3, rfl, hm3, hn3⟩
      have hb3 := hb2.trans (hn3.mono hb2.size)
      have hw3 := hw2.trans (hn3.mono hw2.size)
      clear hm1 hm2
      clear cc hb2 hw2 hn3
      clear k0_0 k0_1 k1_0 k1_1
      have k0_0 := (HF.out.below hb3 HF.out.lt).cell0
      have k0_1 := (HF.out.below hb3 HF.out.lt).cell1
      have k1_0 := (HG.out.below hb3 HG.out.lt).cell0
      have k1_1 := (HG.out.below hb3 HG.out.lt).cell1
      have cc := cR1 V3 hw3 _ hm3
      go_wp2_with fail
      refine cc.mono ?_
      rintro e V4 ⟨v4, rfl, hm4, hn4⟩
      have hb4 := hb3.trans (hn4.mono hb3.size)
      have hw4 := hw3.trans (hn4.mono hw3.size)
      clear hm3
      subst hm4
      clear cc hb3 hw3 hn4
      clear k0_0 k0_1 k1_0 k1_1
      have k0_0 := (HF.out.below hb4 HF.out.lt).cell0
      have k0_1 := (HF.out.below hb4 HF.out.lt).cell1
      have k1_0 := (HG.out.below hb4 HG.out.lt).cell0
      have k1_1 := (HG.out.below hb4 HG.out.lt).cell1
      have cc := cO2 V4 hw4
      go_wp2_with fail
      refine cc.mono ?_
      rintro e V5 ⟨v5, rfl, hm5, hn5⟩
      have hb5 := hb4.trans (hn5.mono hb4.size)
      have hw5 := hw4.trans (hn5.mono hw4.size)
      clear cc hb4 hw4 hn5
      clear k0_0 k0_1 k1_0 k1_1
      have k0_0 := (HF.out.below hb5 HF.out.lt).cell0
      have k0_1 := (HF.out.below hb5 HF.out.lt).cell1
      have k1_0 := (HG.out.below hb5 HG.out.lt).cell0
      have k1_1 := (HG.out.below hb5 HG.out.lt).cell1
      have cc := cW V5 hw5
      go_wp2_with fail
      refine cc.mono ?_
      rintro e V6 ⟨v6, rfl, hm6, hn6⟩
      have hb6 := hb5.trans (hn6.mono hb5.size)
      have hw6 := hw5.trans (hn6.mono hw5.size)
      have hm5 := hm5.below hn6
      clear cc hb5 hw5 hn6
      clear k0_0 k0_1 k1_0 k1_1
      have k0_0 := (HF.out.below hb6 HF.out.lt).cell0
      have k0_1 := (HF.out.below hb6 HF.out.lt).cell1
      have k1_0 := (HG.out.below hb6 HG.out.lt).cell0
      have k1_1 := (HG.out.below hb6 HG.out.lt).cell1
      have cc := cM2 V6 hw6 _ _ hm5 hm6
      go_wp2_with fail
      refine cc.mono ?_
      rintro e V7 ⟨v7, rfl, hm7, hn7⟩
      have hb7 := hb6.trans (hn7.mono hb6.size)
      have hw7 := hw6.trans (hn7.mono hw6.size)
      clear hm5 hm6
      clear cc hb6 hw6 hn7
      clear k0_0 k0_1 k1_0 k1_1
      have k0_0 := (HF.out.below hb7 HF.out.lt).cell0
      have k0_1 := (HF.out.below hb7 HF.out.lt).cell1
      have k1_0 := (HG.out.below hb7 HG.out.lt).cell0
      have k1_1 := (HG.out.below hb7 HG.out.lt).cell1
      have cc := cR2 V7 hw7 _ hm7
      go_wp2_with fail
      refine cc.mono ?_
      rintro e V8 ⟨v8, rfl, hm8, hn8⟩
      have hb8 := hb7.trans (hn8.mono hb7.size)
      have hw8 := hw7.trans (hn8.mono hw7.size)
      clear hm7
      subst hm8
      clear cc hb7 hw7 hn8
      clear k0_0 k0_1 k1_0 k1_1
      have k0_0 := (HF.out.below hb8 HF.out.lt).cell0
      have k0_1 := (HF.out.below hb8 HF.out.lt).cell1
      have k1_0 := (HG.out.below hb8 HG.out.lt).cell0
      have k1_1 := (HG.out.below hb8 HG.out.lt).cell1
      have XF := Lib.hid (HF.out.below hb8 HF.out.lt)
      have XG := Lib.hid (HG.out.below hb8 HG.out.lt)
      have XR := Lib.hid (HR.out.below hb8 HR.out.lt)
      have XB := Lib.hid hw8
      clear hb8 hw8 HF HG HR HBW k0_0 k0_1 k1_0 k1_1 cO1 cO2 cW cM1 cM2 cR1 cR2 u1 u2
      by_cases hlt : (d : Int) < y2
      · have d1 : decide (t < f) = true := decide_eq_true (HFR.out.2.2.1 hlt)
        clear hdy
        go_wp2
        go_roundw
        case rel => exact ⟨d + 1, by omega, by omega, by omega, by go_num, XF.out, XG.out, XR.out, XB.out⟩
        case measure => simp [intOf]; omega
      · have he : (d : Int) = y2 := by omega
        have hft := HFR.out.2.2.2 he
        have hnn := HN.out he
        have d1 : decide (t < f) = false := decide_eq_false (by omega)
        have HRV := Lib.hid (HV1.out (by omega))
        have HE := Lib.hid he
        have r0 := XR.out.cell0
        have r1 := XR.out.cell1
        have g0 := XR.out.free 0
        have g1 := XR.out.free 1
        clear hdy hlt he
        by_cases c1 : f ≤ 0
        · by_cases c2 : 0 ≤ t
          · skip
            have HY := Lib.hid (hnn.1 c1 c2)
            have d2 : decide (f ≤ 0) = true := decide_eq_true c1
            have d3 : decide (0 ≤ t) = true := decide_eq_true c2
            have d4 : decide (t < 0) = false := decide_eq_false (by omega)
            clear c1 c2
            clear hft hnn
            go_wp2
            refine bodyPost_ret (v := .tuple #[.agg #[.int .i64 0, .int .i64 d], .bool true]) (by simp [results, Try.results18, go_sem, r0, r1, g0, g1]) rfl ⟨by rw [HRV.out, HY.out, HE.out], ?_⟩
            exact (XB.out.setCell (by dsimp only; omega) _).setCell (by dsimp only; omega) _
          · skip
            have HY := Lib.hid (hnn.2.2 (by omega))
            have d2 : decide (f ≤ 0) = true := decide_eq_true c1
            have d3 : decide (0 ≤ t) = false := decide_eq_false c2
            have d4 : decide (t < 0) = true := decide_eq_true (by omega)
            clear c1 c2
            clear hft hnn
            go_wp2
            refine bodyPost_ret (v := .tuple #[.agg #[.int .i64 t, .int .i64 d], .bool true]) (by simp [results, Try.results18, go_sem, r0, r1, g0, g1]) rfl ⟨by rw [HRV.out, HY.out, HE.out], ?_⟩
            exact (XB.out.setCell (by dsimp only; omega) _).setCell (by dsimp only; omega) _
        · skip
          have HY := Lib.hid (hnn.2.1 (by omega))
          have d2 : decide (f ≤ 0) = false := decide_eq_false c1
          have d4 : decide (t < 0) = false := decide_eq_false (by omega)
          clear c1
          clear hft hnn
          go_wp2
          refine bodyPost_ret (v := .tuple #[.agg #[.int .i64 f, .int .i64 d], .bool true]) (by simp [results, Try.results18, go_sem, r0, r1, g0, g1]) rfl ⟨by rw [HRV.out, HY.out, HE.out], ?_⟩
          exact (XB.out.setCell (by dsimp only; omega) _).setCell (by dsimp only; omega) _
    · have d0 : decide ((d : Int) ≤ 200) = false := decide_eq_false (by omega)
      have d0n : decide (d ≤ 200) = false := decide_eq_false hgo
      have HRV := Lib.hid (HV2.out (by omega))
      have r0 := HR.out.cell0
      have r1 := HR.out.cell1
      have g0 := HR.out.free 0
      have g1 := HR.out.free 1
      clear hgo hdy
      go_wp2
      refine bodyPost_ret (v := .tuple #[.agg #[.int .i64 0, .int .i64 0], .bool false]) (by simp [results, Try.results18, go_sem, r0, r1, g0, g1]) rfl ⟨by rw [HRV.out], ?_⟩
      exact (HBW.out.setCell (by dsimp only; omega) _).setCell (by dsimp only; omega) _

end Go.Proofs.Ytklngjjokbhfpaa
