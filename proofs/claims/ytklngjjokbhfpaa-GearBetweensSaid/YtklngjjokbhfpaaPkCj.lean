/- Texts Ck Cj in one. -/
import Derived.Test.YtklngjjokbhfpaaU
import Derived.Test.YtklngjjokbhfpaaPkCh
import Derived.Test.YtklngjjokbhfpaaQ
namespace Go.Proofs.Ytklngjjokbhfpaa
open Go.RowKit

structure BetwOk (p q r s : Int) (y : Int × Int) : Prop where
  ok : FOk y
  lo : p * y.2 ≤ y.1 * q
  hi : y.1 * s ≤ r * y.2
  least : ∀ a b : Int, 1 ≤ b → p * b ≤ a * q → a * s ≤ r * b → y.2 ≤ b ∧ y.1.natAbs ≤ a.natAbs

theorem betwM_pos {p q r s : Int} (h : FOk (p, q)) (k : FOk (r, s)) (hle : ¬ 0 < p * s - r * q) (hp : 0 < p) : BetwOk p q r s (simpM (q + s).toNat p q r s) := by
  have hq : 1 ≤ q := h.1
  have hs : 1 ≤ s := k.1
  have hp2 : p.natAbs ≤ 4611686018427387904 := h.2.2.1
  have hq2 : q ≤ 4611686018427387904 := h.2.1
  have hr : 0 < r := by
    have h1 : 0 < p * s := Int.mul_pos hp (by omega)
    have h2 : 0 < r * q := by omega
    exact Int.pos_of_mul_pos_left h2 (by omega)
  have hok := FOk.sok h k hp hr hle
  obtain ⟨s1, s2, s3, s4, s5, s6⟩ := simpM_spec (q + s).toNat p q r s hok (by omega)
  obtain ⟨b1, b2⟩ := simpM_le hok (f := (q + s).toNat) (by omega)
  generalize simpM (q + s).toNat p q r s = y at *
  refine ⟨⟨s2, by omega, by omega, s3⟩, s4, s5, fun a b hb h1 h2 => ?_⟩
  obtain ⟨c1, c2⟩ := s6 a b hb h1 h2
  omega

theorem betwM_ok {p q r s : Int} (h : FOk (p, q)) (k : FOk (r, s)) (hle : ¬ 0 < p * s - r * q) : BetwOk p q r s (betwM p q r s) := by
  have hq : 1 ≤ q := h.1
  have hs : 1 ≤ s := k.1
  unfold betwM
  by_cases h0 : p ≤ 0 ∧ 0 ≤ r
  · rw [if_pos h0]
    refine ⟨⟨Int.le_refl _, by decide, by decide, by decide⟩, by simp; omega, by simp; omega, fun a b hb _ _ => ⟨hb, by simp⟩⟩
  · rw [if_neg h0]
    by_cases hr : r < 0
    · rw [if_pos hr]
      have hle' : ¬ 0 < (-r) * q - (-p) * s := by rw [Int.neg_mul, Int.neg_mul]; omega
      have hb := betwM_pos k.neg h.neg hle' (by omega)
      rw [show (s + q).toNat = (s + q).toNat from rfl]
      generalize simpM (s + q).toNat (-r) s (-p) q = y at *
      obtain ⟨b1, b2, b3, b4⟩ := hb
      refine ⟨FOk.neg (p := y.1) (q := y.2) b1, ?_, ?_, fun a b hb h1 h2 => ?_⟩
      · show p * y.2 ≤ -y.1 * q
        rw [Int.neg_mul] at b3 ⊢; omega
      · show -y.1 * s ≤ r * y.2
        rw [Int.neg_mul] at b2 ⊢; omega
      · have := b4 (-a) b hb (by rw [Int.neg_mul, Int.neg_mul]; omega) (by rw [Int.neg_mul, Int.neg_mul]; omega)
        simp only [Int.natAbs_neg] at this ⊢
        exact this
    · rw [if_neg hr]
      refine betwM_pos h k hle ?_
      omega

theorem betwM_mirror (p q r s : Int) (hq : 1 ≤ q) (hs : 1 ≤ s) (hle : ¬ 0 < p * s - r * q) : betwM (-r) s (-p) q = (-(betwM p q r s).1, (betwM p q r s).2) := by
  unfold betwM
  by_cases h0 : p ≤ 0 ∧ 0 ≤ r
  · rw [if_pos h0, if_pos (by omega)]; rfl
  · rw [if_neg h0, if_neg (by omega)]
    by_cases hr : r < 0
    · rw [if_pos hr]
      have hp : p < 0 := by
        by_cases hp : p < 0
        · exact hp
        · have h1 : 0 ≤ p * s := Int.mul_nonneg (by omega) (by omega)
          have h2 : r * q < 0 := Int.mul_neg_of_neg_of_pos hr (by omega)
          omega
      rw [if_neg (by omega)]
      simp
    · rw [if_neg hr, if_pos (by omega)]
      simp

theorem betwM_self {p q : Int} (h : FOk (p, q)) : betwM p q p q = (p, q) := by
  have hb := betwM_ok h h (by omega)
  generalize betwM p q p q = y at *
  obtain ⟨⟨y1, y2, y3, y4⟩, lo, hi, least⟩ := hb
  have hq : 1 ≤ q := h.1
  have he : p * y.2 = y.1 * q := Int.le_antisymm lo hi
  have hd : q ∣ p * y.2 := ⟨y.1, by rw [he, Int.mul_comm]⟩
  have hg : Int.gcd q p = 1 := by rw [Int.gcd_comm]; exact h.2.2.2
  have hd2 : q ∣ y.2 := by
    have h1 : q.natAbs ∣ p.natAbs * y.2.natAbs := by rw [← Int.natAbs_mul]; exact Int.natAbs_dvd_natAbs.2 hd
    exact Int.natAbs_dvd_natAbs.1 (Nat.Coprime.dvd_of_dvd_mul_left (show Nat.Coprime q.natAbs p.natAbs from hg) h1)
  have h1 : q ≤ y.2 := Int.le_of_dvd (by omega) hd2
  have h2 := (least p q hq (Int.le_refl _) (Int.le_refl _)).1
  have h3 : y.2 = q := by omega
  rw [h3] at he
  have h4 : p = y.1 := Int.eq_of_mul_eq_mul_right (by omega) he
  exact Prod.ext h4.symm h3
end Go.Proofs.Ytklngjjokbhfpaa

namespace Go.Proofs.Ytklngjjokbhfpaa
open Go.RowKit

/-- What Small answers. -/
def smallV (z : Int) : Value := if -4611686018427387904 ≤ z ∧ z ≤ 4611686018427387904 then .tuple #[.int .i64 z, .bool true] else .tuple #[.int .i64 0, .bool false]
theorem i64_ten (x : Int) (h : 0 ≤ x ∧ x ≤ 4611686018427387904) : I64 x := ⟨by omega, by omega⟩

set_option maxRecDepth 100000 in
set_option maxHeartbeats 1600000 in
theorem rsmall_false (A : Option Addr) (n c : Nat) (m0 : Int) (N : Nat) (w : World) (hv : RMag w (.slice A n c) m0 N) (hN : N ≤ 900) :
    Calls Try.prog 69 #[.agg #[.bool false, .slice A n c]] w (RetV (smallV m0) w) := by
  have hnn := hv.nonneg
  have ci := fun W (_ : Below w.heap.size w W) => rint_any 4611686018427387904 W ⟨by omega, by omega⟩
  have cs : ∀ W (_ : Below w.heap.size w W) v1, RMag W v1 4611686018427387904 5 → Calls Try.prog 86 #[.slice A n c, v1] W (RetW (.int .i64 (sgn (m0 - 4611686018427387904))) W) := fun W hb v1 h => (rsizes_any (hv.below hb) h (by omega) (by omega)).mono fun e w' ⟨h1, z, h2⟩ => ⟨_, h1, rfl, by rw [h2]; exact ⟨rfl, rfl, rfl, Nat.le_refl _, fun _ _ => rfl⟩⟩
  obtain ⟨A', n', c', xs, e', hl, hnc, hcm, hA0, hI, hD, hNo, hval, hNn⟩ := hv
  cases e'
  have hho := fun i => DG.horner_le hD i
  rw [hval] at hho
  have hdr := fun (i : Nat) h => DG.dv_drop DG.b4 (l := xs) (i := i) h
  have HXG := Lib.hid (fun (i : Nat) (h : i < xs.length) => (show xs[i]'h = xs.getD i 0 by simp [List.getD, h]))
  have HX := Lib.hid (fun i => hD.getD DG.b4_one i)
  have HL := Lib.hid hl
  have HV := Lib.hid hval
  have HHO := Lib.hid hho
  have HDR := Lib.hid hdr
  have HI := Lib.hid hI
  have hsg1 : m0 ≤ 4611686018427387904 → sgn (m0 - 4611686018427387904) ≤ 0 := fun h => by unfold sgn; split <;> (try split) <;> omega
  have hsg2 : ¬ m0 ≤ 4611686018427387904 → 0 < sgn (m0 - 4611686018427387904) := fun h => by unfold sgn; split <;> (try split) <;> omega
  have hrv1 : m0 ≤ 4611686018427387904 → smallV m0 = .tuple #[.int .i64 m0, .bool true] := fun h => by unfold smallV; rw [if_pos (by omega)]
  have hrv2 : ¬ m0 ≤ 4611686018427387904 → smallV m0 = .tuple #[.int .i64 0, .bool false] := fun h => by unfold smallV; rw [if_neg (by omega)]
  generalize smallV m0 = rv at *
  generalize sgn (m0 - 4611686018427387904) = sg at *
  clear hho hdr hl hval hI hD hNo
  obtain ⟨W3, hW3⟩ : ∃ W3, W3 = (w.alloc (.cells #[.bool false, .slice A n c] 33)) := ⟨_, rfl⟩
  have hB : Below w.heap.size w W3 := by rw [hW3]; exact ((Below.refl _ _).alloc (Nat.le_refl _) _)
  have HBW := Lib.hid hB
  have HF := Lib.hid (show Two W3 (w.heap.size) (.bool false) (.slice A n c) 33 by rw [hW3]; exact (Two.newAt _ _ _ _ _ (by simp)))
  clear hB
  go_enter Try.func69, Try.ntmps69
  go_wp2_with fail
  rw [← hW3]
  clear hW3
  by_cases hle : m0 ≤ 4611686018427387904
  · have hsg := hsg1 (by omega)
    have d1 : decide (0 < sg) = false := decide_eq_false (by omega)
    have HRV := Lib.hid (hrv1 (by omega))
    clear hsg1 hsg2 hrv1 hrv2 hsg
    refine Lex.wp_region_lex (fun w' => Two w' w.heap.size (.bool false) (.slice A n c) 33) (fun _ => true)
      [(0, true), (1, true), (2, false), (3, false), (4, false), (5, false)]
      (by kernel_rfl) (by kernel_rfl) (by kernel_rfl) (by kernel_rfl) HF.out ?_
    iterate 2 (refine Lex.lex_take (v := ?_) rfl rfl (by rfl) (fun _ hS => ?_) ?_; rotate_left 1; (focus (have g0_0 := hS.cell0; have g0_1 := hS.cell1; clear hS; go_simp; with_reducible rfl)); simp only [List.setIfInBounds_toArray, List.set_cons_zero, List.set_cons_succ])
    refine Lex.lex_do rfl ?_
    have hb0 : Below W3.heap.size W3 W3.drew := ⟨rfl, rfl, rfl, Nat.le_refl _, fun _ _ => rfl⟩
    have hw0 : Below w.heap.size w W3.drew := ⟨HBW.out.os, HBW.out.tape, HBW.out.output, HBW.out.size, HBW.out.block⟩
    generalize hV0 : W3.drew = V0 at *
    clear hV0
    have cc := ci V0 hw0
    go_wp2_with fail
    refine cc.mono ?_
    rintro e V1 ⟨v1, rfl, hm1, hn1⟩
    have hb1 := hb0.trans (hn1.mono hb0.size)
    have hw1 := hw0.trans (hn1.mono hw0.size)
    clear cc hb0 hw0 hn1
    go_wp2_with fail
    have E0 := HF.out.below hb1 HF.out.lt
    refine Lex.lexQ_normal (fun _ => E0) ?_
    refine Lex.lex_do rfl ?_
    clear E0
    obtain ⟨A5, n5, c5, rfl, hm5⟩ := hm1.pos' (by omega)
    have hfd := fun W => field_Z1 false A5 n5 c5 W
    go_wp2_with fail
    have E0 := HF.out.below hb1 HF.out.lt
    refine Lex.lexQ_normal (fun _ => E0) ?_
    refine Lex.lex_do rfl ?_
    clear E0
    clear hfd
    have cc := cs V1 hw1 _ hm5
    go_wp2_with fail
    refine cc.mono ?_
    rintro e V2 ⟨v2, rfl, hm2, hn2⟩
    have hb2 := hb1.trans (hn2.mono hb1.size)
    have hw2 := hw1.trans (hn2.mono hw1.size)
    clear cc hb1 hw1 hn2
    go_wp2_with fail
    have E0 := HF.out.below hb2 HF.out.lt
    refine Lex.lexQ_normal (fun _ => E0) ?_
    refine Lex.lex_do rfl ?_
    clear E0
    subst hm2
    clear hm1 hm5
    go_wp2_with fail
    refine Lex.lexQ_normal (fun _ => (HF.out.below hb2 HF.out.lt)) ?_
    refine Lex.lex_nil ?_
    have k0 := (HF.out.below hb2 HF.out.lt).cell0
    have k1 := (HF.out.below hb2 HF.out.lt).cell1
    have HI2 := Lib.hid (HI.out.below hw2)
    have HWE := Lib.hid hw2
    clear hb2 hw2 d1
    go_wp2
    go_loopw [4, 5] (fun v i wr => ∃ k : Nat, k ≤ n ∧ i = .int .i64 ((k : Int) - 1) ∧ v = .int .i64 (DG.dv DG.b4 (xs.drop k)) ∧ V2 = wr) (fun _ i _ => (intOf i + 1).toNat)
    case atStart => exact ⟨n, Nat.le_refl _, rfl, by rw [List.drop_of_length_le (by rw [HL.out]; exact Nat.le_refl _)]; rfl, rfl⟩
    case round =>
      obtain ⟨k, hk, rfl, rfl, rfl⟩ := hrel
      cases k with
      | zero =>
        have hdv : DG.dv DG.b4 (xs.drop 0) = m0 := by rw [List.drop_zero]; exact HV.out
        rw [hdv]
        clear hdv
        have d2 : decide ((0 : Int) ≤ ((0 : Nat) : Int) - 1) = false := rfl
        have u1 : IntKind.i64.wrap (-m0) = -m0 := IntWalk.i64_in _ (by omega)
        go_wp2
        refine bodyPost_ret (v := .tuple #[.int .i64 m0, .bool true]) (by simp [results, Try.results69, go_sem]) rfl ⟨by rw [HRV.out], HWE.out⟩
      | succ k =>
        rw [show ((k + 1 : Nat) : Int) - 1 = (k : Int) from by omega]
        obtain ⟨b1, o1, rfl, hl1, hc1⟩ := HI2.out.get (k := k) (by rw [HL.out]; omega)
        rw [HXG.out k (by rw [HL.out]; omega)] at hc1
        have hx := HX.out k
        have e1 := HDR.out k (by rw [HL.out]; omega)
        have h1 := HHO.out k
        have h2 := HHO.out (k + 1)
        rw [show DG.b4 = 10000 from rfl] at hx
        have HE := Lib.hid (show xs.getD k 0 + 10000 * DG.dv DG.b4 (xs.drop (k + 1)) = DG.dv DG.b4 (xs.drop k) from e1.symm)
        have e2 : 0 ≤ xs.getD k 0 + 10000 * DG.dv DG.b4 (xs.drop (k + 1)) ∧ xs.getD k 0 + 10000 * DG.dv DG.b4 (xs.drop (k + 1)) ≤ 4611686018427387904 := by rw [HE.out]; omega
        clear e1
        generalize DG.dv DG.b4 (xs.drop (k + 1)) = a at *
        generalize xs.getD k 0 = x at *
        have i1 : (k : Int) < (n : Int) := by omega
        have u1 : IntKind.i64.wrap (a * 10000) = a * 10000 := IntWalk.i64_in _ (by omega)
        have u2 : IntKind.i64.wrap (a * 10000 + x) = a * 10000 + x := IntWalk.i64_in _ (by omega)
        go_wp2
        go_roundw
        case rel => exact ⟨k, by omega, by go_num, by first | (have := HE.out; omega) | (congr 1; have := HE.out; omega), by trivial⟩
        case measure => simp [intOf]
  · have hsg := hsg2 (by omega)
    have d1 : decide (0 < sg) = true := decide_eq_true (by omega)
    have HRV := Lib.hid (hrv2 (by omega))
    clear hsg1 hsg2 hrv1 hrv2 hsg
    refine Lex.wp_region_lex (fun w' => Two w' w.heap.size (.bool false) (.slice A n c) 33) (fun _ => true)
      [(0, true), (1, true), (2, false), (3, false), (4, false), (5, false)]
      (by kernel_rfl) (by kernel_rfl) (by kernel_rfl) (by kernel_rfl) HF.out ?_
    iterate 2 (refine Lex.lex_take (v := ?_) rfl rfl (by rfl) (fun _ hS => ?_) ?_; rotate_left 1; (focus (have g0_0 := hS.cell0; have g0_1 := hS.cell1; clear hS; go_simp; with_reducible rfl)); simp only [List.setIfInBounds_toArray, List.set_cons_zero, List.set_cons_succ])
    refine Lex.lex_do rfl ?_
    have hb0 : Below W3.heap.size W3 W3.drew := ⟨rfl, rfl, rfl, Nat.le_refl _, fun _ _ => rfl⟩
    have hw0 : Below w.heap.size w W3.drew := ⟨HBW.out.os, HBW.out.tape, HBW.out.output, HBW.out.size, HBW.out.block⟩
    generalize hV0 : W3.drew = V0 at *
    clear hV0
    have cc := ci V0 hw0
    go_wp2_with fail
    refine cc.mono ?_
    rintro e V1 ⟨v1, rfl, hm1, hn1⟩
    have hb1 := hb0.trans (hn1.mono hb0.size)
    have hw1 := hw0.trans (hn1.mono hw0.size)
    clear cc hb0 hw0 hn1
    go_wp2_with fail
    have E0 := HF.out.below hb1 HF.out.lt
    refine Lex.lexQ_normal (fun _ => E0) ?_
    refine Lex.lex_do rfl ?_
    clear E0
    obtain ⟨A5, n5, c5, rfl, hm5⟩ := hm1.pos' (by omega)
    have hfd := fun W => field_Z1 false A5 n5 c5 W
    go_wp2_with fail
    have E0 := HF.out.below hb1 HF.out.lt
    refine Lex.lexQ_normal (fun _ => E0) ?_
    refine Lex.lex_do rfl ?_
    clear E0
    clear hfd
    have cc := cs V1 hw1 _ hm5
    go_wp2_with fail
    refine cc.mono ?_
    rintro e V2 ⟨v2, rfl, hm2, hn2⟩
    have hb2 := hb1.trans (hn2.mono hb1.size)
    have hw2 := hw1.trans (hn2.mono hw1.size)
    clear cc hb1 hw1 hn2
    go_wp2_with fail
    have E0 := HF.out.below hb2 HF.out.lt
    refine Lex.lexQ_normal (fun _ => E0) ?_
    refine Lex.lex_do rfl ?_
    clear E0
    subst hm2
    clear hm1 hm5
    go_wp2_with fail
    refine Lex.lexQ_normal (fun _ => (HF.out.below hb2 HF.out.lt)) ?_
    refine Lex.lex_nil ?_
    go_wp2
    refine bodyPost_ret (v := .tuple #[.int .i64 0, .bool false]) (by simp [results, Try.results69, go_sem]) rfl ⟨by rw [HRV.out], hw2⟩

set_option maxRecDepth 100000 in
set_option maxHeartbeats 1600000 in
theorem rsmall_true (A : Option Addr) (n c : Nat) (m0 : Int) (N : Nat) (w : World) (hv : RMag w (.slice A n c) m0 N) (hN : N ≤ 900) (hp : 0 < m0) :
    Calls Try.prog 69 #[.agg #[.bool true, .slice A n c]] w (RetV (smallV (-m0)) w) := by
  have hnn := hv.nonneg
  have ci := fun W (_ : Below w.heap.size w W) => rint_any 4611686018427387904 W ⟨by omega, by omega⟩
  have cs : ∀ W (_ : Below w.heap.size w W) v1, RMag W v1 4611686018427387904 5 → Calls Try.prog 86 #[.slice A n c, v1] W (RetW (.int .i64 (sgn (m0 - 4611686018427387904))) W) := fun W hb v1 h => (rsizes_any (hv.below hb) h (by omega) (by omega)).mono fun e w' ⟨h1, z, h2⟩ => ⟨_, h1, rfl, by rw [h2]; exact ⟨rfl, rfl, rfl, Nat.le_refl _, fun _ _ => rfl⟩⟩
  obtain ⟨A', n', c', xs, e', hl, hnc, hcm, hA0, hI, hD, hNo, hval, hNn⟩ := hv
  cases e'
  have hho := fun i => DG.horner_le hD i
  rw [hval] at hho
  have hdr := fun (i : Nat) h => DG.dv_drop DG.b4 (l := xs) (i := i) h
  have HXG := Lib.hid (fun (i : Nat) (h : i < xs.length) => (show xs[i]'h = xs.getD i 0 by simp [List.getD, h]))
  have HX := Lib.hid (fun i => hD.getD DG.b4_one i)
  have HL := Lib.hid hl
  have HV := Lib.hid hval
  have HHO := Lib.hid hho
  have HDR := Lib.hid hdr
  have HI := Lib.hid hI
  have hsg1 : m0 ≤ 4611686018427387904 → sgn (m0 - 4611686018427387904) ≤ 0 := fun h => by unfold sgn; split <;> (try split) <;> omega
  have hsg2 : ¬ m0 ≤ 4611686018427387904 → 0 < sgn (m0 - 4611686018427387904) := fun h => by unfold sgn; split <;> (try split) <;> omega
  have hrv1 : m0 ≤ 4611686018427387904 → smallV (-m0) = .tuple #[.int .i64 (-m0), .bool true] := fun h => by unfold smallV; rw [if_pos (by omega)]
  have hrv2 : ¬ m0 ≤ 4611686018427387904 → smallV (-m0) = .tuple #[.int .i64 0, .bool false] := fun h => by unfold smallV; rw [if_neg (by omega)]
  generalize smallV (-m0) = rv at *
  generalize sgn (m0 - 4611686018427387904) = sg at *
  clear hho hdr hl hval hI hD hNo
  obtain ⟨W3, hW3⟩ : ∃ W3, W3 = (w.alloc (.cells #[.bool true, .slice A n c] 33)) := ⟨_, rfl⟩
  have hB : Below w.heap.size w W3 := by rw [hW3]; exact ((Below.refl _ _).alloc (Nat.le_refl _) _)
  have HBW := Lib.hid hB
  have HF := Lib.hid (show Two W3 (w.heap.size) (.bool true) (.slice A n c) 33 by rw [hW3]; exact (Two.newAt _ _ _ _ _ (by simp)))
  clear hB
  go_enter Try.func69, Try.ntmps69
  go_wp2_with fail
  rw [← hW3]
  clear hW3
  by_cases hle : m0 ≤ 4611686018427387904
  · have hsg := hsg1 (by omega)
    have d1 : decide (0 < sg) = false := decide_eq_false (by omega)
    have HRV := Lib.hid (hrv1 (by omega))
    clear hsg1 hsg2 hrv1 hrv2 hsg
    refine Lex.wp_region_lex (fun w' => Two w' w.heap.size (.bool true) (.slice A n c) 33) (fun _ => true)
      [(0, true), (1, true), (2, false), (3, false), (4, false), (5, false)]
      (by kernel_rfl) (by kernel_rfl) (by kernel_rfl) (by kernel_rfl) HF.out ?_
    iterate 2 (refine Lex.lex_take (v := ?_) rfl rfl (by rfl) (fun _ hS => ?_) ?_; rotate_left 1; (focus (have g0_0 := hS.cell0; have g0_1 := hS.cell1; clear hS; go_simp; with_reducible rfl)); simp only [List.setIfInBounds_toArray, List.set_cons_zero, List.set_cons_succ])
    refine Lex.lex_do rfl ?_
    have hb0 : Below W3.heap.size W3 W3.drew := ⟨rfl, rfl, rfl, Nat.le_refl _, fun _ _ => rfl⟩
    have hw0 : Below w.heap.size w W3.drew := ⟨HBW.out.os, HBW.out.tape, HBW.out.output, HBW.out.size, HBW.out.block⟩
    generalize hV0 : W3.drew = V0 at *
    clear hV0
    have cc := ci V0 hw0
    go_wp2_with fail
    refine cc.mono ?_
    rintro e V1 ⟨v1, rfl, hm1, hn1⟩
    have hb1 := hb0.trans (hn1.mono hb0.size)
    have hw1 := hw0.trans (hn1.mono hw0.size)
    clear cc hb0 hw0 hn1
    go_wp2_with fail
    have E0 := HF.out.below hb1 HF.out.lt
    refine Lex.lexQ_normal (fun _ => E0) ?_
    refine Lex.lex_do rfl ?_
    clear E0
    obtain ⟨A5, n5, c5, rfl, hm5⟩ := hm1.pos' (by omega)
    have hfd := fun W => field_Z1 false A5 n5 c5 W
    go_wp2_with fail
    have E0 := HF.out.below hb1 HF.out.lt
    refine Lex.lexQ_normal (fun _ => E0) ?_
    refine Lex.lex_do rfl ?_
    clear E0
    clear hfd
    have cc := cs V1 hw1 _ hm5
    go_wp2_with fail
    refine cc.mono ?_
    rintro e V2 ⟨v2, rfl, hm2, hn2⟩
    have hb2 := hb1.trans (hn2.mono hb1.size)
    have hw2 := hw1.trans (hn2.mono hw1.size)
    clear cc hb1 hw1 hn2
    go_wp2_with fail
    have E0 := HF.out.below hb2 HF.out.lt
    refine Lex.lexQ_normal (fun _ => E0) ?_
    refine Lex.lex_do rfl ?_
    clear E0
    subst hm2
    clear hm1 hm5
    go_wp2_with fail
    refine Lex.lexQ_normal (fun _ => (HF.out.below hb2 HF.out.lt)) ?_
    refine Lex.lex_nil ?_
    have k0 := (HF.out.below hb2 HF.out.lt).cell0
    have k1 := (HF.out.below hb2 HF.out.lt).cell1
    have HI2 := Lib.hid (HI.out.below hw2)
    have HWE := Lib.hid hw2
    clear hb2 hw2 d1
    go_wp2
    go_loopw [4, 5] (fun v i wr => ∃ k : Nat, k ≤ n ∧ i = .int .i64 ((k : Int) - 1) ∧ v = .int .i64 (DG.dv DG.b4 (xs.drop k)) ∧ V2 = wr) (fun _ i _ => (intOf i + 1).toNat)
    case atStart => exact ⟨n, Nat.le_refl _, rfl, by rw [List.drop_of_length_le (by rw [HL.out]; exact Nat.le_refl _)]; rfl, rfl⟩
    case round =>
      obtain ⟨k, hk, rfl, rfl, rfl⟩ := hrel
      cases k with
      | zero =>
        have hdv : DG.dv DG.b4 (xs.drop 0) = m0 := by rw [List.drop_zero]; exact HV.out
        rw [hdv]
        clear hdv
        have d2 : decide ((0 : Int) ≤ ((0 : Nat) : Int) - 1) = false := rfl
        have u1 : IntKind.i64.wrap (-m0) = -m0 := IntWalk.i64_in _ (by omega)
        go_wp2
        refine bodyPost_ret (v := .tuple #[.int .i64 (-m0), .bool true]) (by simp [results, Try.results69, go_sem]) rfl ⟨by rw [HRV.out], HWE.out⟩
      | succ k =>
        rw [show ((k + 1 : Nat) : Int) - 1 = (k : Int) from by omega]
        obtain ⟨b1, o1, rfl, hl1, hc1⟩ := HI2.out.get (k := k) (by rw [HL.out]; omega)
        rw [HXG.out k (by rw [HL.out]; omega)] at hc1
        have hx := HX.out k
        have e1 := HDR.out k (by rw [HL.out]; omega)
        have h1 := HHO.out k
        have h2 := HHO.out (k + 1)
        rw [show DG.b4 = 10000 from rfl] at hx
        have HE := Lib.hid (show xs.getD k 0 + 10000 * DG.dv DG.b4 (xs.drop (k + 1)) = DG.dv DG.b4 (xs.drop k) from e1.symm)
        have e2 : 0 ≤ xs.getD k 0 + 10000 * DG.dv DG.b4 (xs.drop (k + 1)) ∧ xs.getD k 0 + 10000 * DG.dv DG.b4 (xs.drop (k + 1)) ≤ 4611686018427387904 := by rw [HE.out]; omega
        clear e1
        generalize DG.dv DG.b4 (xs.drop (k + 1)) = a at *
        generalize xs.getD k 0 = x at *
        have i1 : (k : Int) < (n : Int) := by omega
        have u1 : IntKind.i64.wrap (a * 10000) = a * 10000 := IntWalk.i64_in _ (by omega)
        have u2 : IntKind.i64.wrap (a * 10000 + x) = a * 10000 + x := IntWalk.i64_in _ (by omega)
        go_wp2
        go_roundw
        case rel => exact ⟨k, by omega, by go_num, by first | (have := HE.out; omega) | (congr 1; have := HE.out; omega), by trivial⟩
        case measure => simp [intOf]
  · have hsg := hsg2 (by omega)
    have d1 : decide (0 < sg) = true := decide_eq_true (by omega)
    have HRV := Lib.hid (hrv2 (by omega))
    clear hsg1 hsg2 hrv1 hrv2 hsg
    refine Lex.wp_region_lex (fun w' => Two w' w.heap.size (.bool true) (.slice A n c) 33) (fun _ => true)
      [(0, true), (1, true), (2, false), (3, false), (4, false), (5, false)]
      (by kernel_rfl) (by kernel_rfl) (by kernel_rfl) (by kernel_rfl) HF.out ?_
    iterate 2 (refine Lex.lex_take (v := ?_) rfl rfl (by rfl) (fun _ hS => ?_) ?_; rotate_left 1; (focus (have g0_0 := hS.cell0; have g0_1 := hS.cell1; clear hS; go_simp; with_reducible rfl)); simp only [List.setIfInBounds_toArray, List.set_cons_zero, List.set_cons_succ])
    refine Lex.lex_do rfl ?_
    have hb0 : Below W3.heap.size W3 W3.drew := ⟨rfl, rfl, rfl, Nat.le_refl _, fun _ _ => rfl⟩
    have hw0 : Below w.heap.size w W3.drew := ⟨HBW.out.os, HBW.out.tape, HBW.out.output, HBW.out.size, HBW.out.block⟩
    generalize hV0 : W3.drew = V0 at *
    clear hV0
    have cc := ci V0 hw0
    go_wp2_with fail
    refine cc.mono ?_
    rintro e V1 ⟨v1, rfl, hm1, hn1⟩
    have hb1 := hb0.trans (hn1.mono hb0.size)
    have hw1 := hw0.trans (hn1.mono hw0.size)
    clear cc hb0 hw0 hn1
    go_wp2_with fail
    have E0 := HF.out.below hb1 HF.out.lt
    refine Lex.lexQ_normal (fun _ => E0) ?_
    refine Lex.lex_do rfl ?_
    clear E0
    obtain ⟨A5, n5, c5, rfl, hm5⟩ := hm1.pos' (by omega)
    have hfd := fun W => field_Z1 false A5 n5 c5 W
    go_wp2_with fail
    have E0 := HF.out.below hb1 HF.out.lt
    refine Lex.lexQ_normal (fun _ => E0) ?_
    refine Lex.lex_do rfl ?_
    clear E0
    clear hfd
    have cc := cs V1 hw1 _ hm5
    go_wp2_with fail
    refine cc.mono ?_
    rintro e V2 ⟨v2, rfl, hm2, hn2⟩
    have hb2 := hb1.trans (hn2.mono hb1.size)
    have hw2 := hw1.trans (hn2.mono hw1.size)
    clear cc hb1 hw1 hn2
    go_wp2_with fail
    have E0 := HF.out.below hb2 HF.out.lt
    refine Lex.lexQ_normal (fun _ => E0) ?_
    refine Lex.lex_do rfl ?_
    clear E0
    subst hm2
    clear hm1 hm5
    go_wp2_with fail
    refine Lex.lexQ_normal (fun _ => (HF.out.below hb2 HF.out.lt)) ?_
    refine Lex.lex_nil ?_
    go_wp2
    refine bodyPost_ret (v := .tuple #[.int .i64 0, .bool false]) (by simp [results, Try.results69, go_sem]) rfl ⟨by rw [HRV.out], hw2⟩

theorem rsmall_any {w : World} {v : Value} {z : Int} {N : Nat} (hv : IsR w v z N) (hN : N ≤ 900) : Calls Try.prog 69 #[v] w (RetV (smallV z) w) := by
  obtain ⟨neg, A, n, c, m, rfl, hm, hz, hp, -⟩ := hv.open'
  cases neg with
  | false => simp at hz; subst hz; exact rsmall_false A n c _ N w hm hN
  | true => simp at hz; subst hz; exact rsmall_true A n c _ N w hm hN (hp rfl)

set_option maxRecDepth 100000 in
set_option maxHeartbeats 1600000 in
theorem rvalid_yes (p q : Int) (w : World) (h1 : 1 ≤ q) (h2 : q ≤ 4611686018427387904) (h3 : -4611686018427387904 ≤ p) (h4 : p ≤ 4611686018427387904) :
    Calls Try.prog 13 #[.agg #[.int .i64 p, .int .i64 q]] w (RetV (.bool (decide (Int.gcd p q = 1))) w) := by
  have c1 := fun W (_ : Below w.heap.size w W) => rint_any p W ⟨by omega, by omega⟩
  have c2 := fun W (_ : Below w.heap.size w W) => rint_any q W ⟨by omega, by omega⟩
  have c3 := fun W (_ : Below w.heap.size w W) => rint_any 1 W ⟨by omega, by omega⟩
  have cg : ∀ W (_ : Below w.heap.size w W) v1 v2, IsR W v1 p 5 → IsR W v2 q 5 → Calls Try.prog 35 #[v1, v2] W (RetR ((Int.gcd p q : Nat) : Int) 5 W) := fun W _ v1 v2 g1 g2 => rgcd_any g1 g2 (by omega)
  have hpos : (0 : Int) ≤ ((Int.gcd p q : Nat) : Int) := by omega
  have hd : decide (Int.gcd p q = 1) = (sgn (((Int.gcd p q : Nat) : Int) - 1) == 0) := by
    unfold sgn
    by_cases h : Int.gcd p q = 1
    · rw [h]; rfl
    · rw [decide_eq_false h, if_neg (by
        have : 0 < Int.gcd p q := Int.gcd_pos_of_ne_zero_right _ (by omega)
        omega), if_neg (by omega)]; rfl
  rw [hd]
  generalize ((Int.gcd p q : Nat) : Int) = g at *
  have cc : ∀ W (_ : Below w.heap.size w W) v1 v2, IsR W v1 g 5 → IsR W v2 1 5 → Calls Try.prog 34 #[v1, v2] W (RetW (.int .i64 (sgn (g - 1))) W) := fun W _ v1 v2 g1 g2 => (rcmpz_any g1 g2 (by omega) (by omega)).mono fun e w' h => RetW.of h
  generalize sgn (g - 1) = sg at *
  clear hd hpos
  have d1 : decide (q < 1) = false := decide_eq_false (by omega)
  have d2 : decide (4611686018427387904 < q) = false := decide_eq_false (by omega)
  have d3 : decide (p < -4611686018427387904) = false := decide_eq_false (by omega)
  have d4 : decide (4611686018427387904 < p) = false := decide_eq_false (by omega)
  obtain ⟨W3, hW3⟩ : ∃ W3, W3 = (w.alloc (.cells #[.int .i64 p, .int .i64 q] 23)) := ⟨_, rfl⟩
  have hB : Below w.heap.size w W3 := by rw [hW3]; exact ((Below.refl _ _).alloc (Nat.le_refl _) _)
  have HBW := Lib.hid hB
  have HF := Lib.hid (show Two W3 (w.heap.size) (.int .i64 p) (.int .i64 q) 23 by rw [hW3]; exact (Two.newAt _ _ _ _ _ (by simp)))
  clear hB
  go_enter Try.func13, Try.ntmps13
  go_upto_region 1 with fail
  rw [← hW3]
  clear hW3
  have k0 := HF.out.cell0
  have k1 := HF.out.cell1
  go_upto_region 3 with fail
  clear k0 k1
  refine Lex.wp_region_lex (fun w' => Two w' w.heap.size (.int .i64 p) (.int .i64 q) 23) (fun j => j != 10)
    [(0, true), (1, true), (3, true), (4, true), (2, false), (5, false), (6, false), (7, false), (8, false), (9, false), (10, false)]
    (by kernel_rfl) (by kernel_rfl) (by kernel_rfl) (by kernel_rfl) HF.out ?_
  iterate 4 (refine Lex.lex_take (v := ?_) rfl rfl (by rfl) (fun _ hS => ?_) ?_; rotate_left 1; (focus (have g0_0 := hS.cell0; have g0_1 := hS.cell1; clear hS; go_simp; with_reducible rfl)); simp only [List.setIfInBounds_toArray, List.set_cons_zero, List.set_cons_succ])
  refine Lex.lex_do rfl ?_
  have hb0 : Below W3.heap.size W3 W3.drew := ⟨rfl, rfl, rfl, Nat.le_refl _, fun _ _ => rfl⟩
  have hw0 : Below w.heap.size w W3.drew := ⟨HBW.out.os, HBW.out.tape, HBW.out.output, HBW.out.size, HBW.out.block⟩
  generalize hV0 : W3.drew = V0 at *
  clear hV0
  have cc := c1 V0 hw0
  go_wp2_with fail
  refine cc.mono ?_
  rintro e V1 ⟨v1, rfl, hm1, hn1⟩
  have hb1 := hb0.trans (hn1.mono hb0.size)
  have hw1 := hw0.trans (hn1.mono hw0.size)
  clear cc hb0 hw0 hn1
  go_wp2_with fail
  have E0 := HF.out.below hb1 HF.out.lt
  refine Lex.lexQ_normal (fun _ => E0) ?_
  refine Lex.lex_do rfl ?_
  clear E0
  have cc := c2 V1 hw1
  go_wp2_with fail
  refine cc.mono ?_
  rintro e V2 ⟨v2, rfl, hm2, hn2⟩
  have hb2 := hb1.trans (hn2.mono hb1.size)
  have hw2 := hw1.trans (hn2.mono hw1.size)
  have hm1 := hm1.below hn2
  clear cc hb1 hw1 hn2
  go_wp2_with fail
  have E0 := HF.out.below hb2 HF.out.lt
  refine Lex.lexQ_normal (fun _ => E0) ?_
  refine Lex.lex_do rfl ?_
  clear E0
  have cc := cg V2 hw2 _ _ hm1 hm2
  go_wp2_with fail
  refine cc.mono ?_
  rintro e V3 ⟨v3, rfl, hm3, hn3⟩
  have hb3 := hb2.trans (hn3.mono hb2.size)
  have hw3 := hw2.trans (hn3.mono hw2.size)
  clear hm1 hm2
  clear cc hb2 hw2 hn3
  go_wp2_with fail
  have E0 := HF.out.below hb3 HF.out.lt
  refine Lex.lexQ_normal (fun _ => E0) ?_
  refine Lex.lex_do rfl ?_
  clear E0
  have cc := c3 V3 hw3
  go_wp2_with fail
  refine cc.mono ?_
  rintro e V4 ⟨v4, rfl, hm4, hn4⟩
  have hb4 := hb3.trans (hn4.mono hb3.size)
  have hw4 := hw3.trans (hn4.mono hw3.size)
  have hm3 := hm3.below hn4
  clear cc hb3 hw3 hn4
  go_wp2_with fail
  have E0 := HF.out.below hb4 HF.out.lt
  refine Lex.lexQ_normal (fun _ => E0) ?_
  refine Lex.lex_do rfl ?_
  clear E0
  have cc := cc V4 hw4 _ _ hm3 hm4
  go_wp2_with fail
  refine cc.mono ?_
  rintro e V5 ⟨v5, rfl, hm5, hn5⟩
  have hb5 := hb4.trans (hn5.mono hb4.size)
  have hw5 := hw4.trans (hn5.mono hw4.size)
  clear cc hb4 hw4 hn5
  go_wp2_with fail
  have E0 := HF.out.below hb5 HF.out.lt
  refine Lex.lexQ_normal (fun _ => E0) ?_
  refine Lex.lex_do rfl ?_
  clear E0
  subst hm5
  clear hm3 hm4
  go_wp2_with fail
  have E0 := HF.out.below hb5 HF.out.lt
  refine Lex.lexQ_normal (fun _ => E0) ?_
  refine Lex.lex_do rfl ?_
  clear E0
  go_wp2_with fail
  refine Lex.lexQ_normal (fun h => absurd h (by decide)) ?_
  refine Lex.lex_nil ?_
  go_wp2
  go_ret
  exact ⟨rfl, hw5⟩

set_option maxRecDepth 100000 in
set_option maxHeartbeats 1600000 in
theorem rvalid_noa (p q : Int) (w : World) (h : q < 1) :
    Calls Try.prog 13 #[.agg #[.int .i64 p, .int .i64 q]] w (RetV (.bool false) w) := by
  have d0 : decide (q < 1) = true := decide_eq_true (by omega)
  clear h
  go_enter Try.func13, Try.ntmps13
  go_wp2
  go_ret
  exact ⟨rfl, (Below.refl _ _).alloc (Nat.le_refl _) _⟩

set_option maxRecDepth 100000 in
set_option maxHeartbeats 1600000 in
theorem rvalid_nob (p q : Int) (w : World) (h : 4611686018427387904 < q) :
    Calls Try.prog 13 #[.agg #[.int .i64 p, .int .i64 q]] w (RetV (.bool false) w) := by
  have d0 : decide (q < 1) = false := decide_eq_false (by omega)
  have d1 : decide (4611686018427387904 < q) = true := decide_eq_true (by omega)
  clear h
  go_enter Try.func13, Try.ntmps13
  go_wp2
  go_ret
  exact ⟨rfl, (Below.refl _ _).alloc (Nat.le_refl _) _⟩

set_option maxRecDepth 100000 in
set_option maxHeartbeats 1600000 in
theorem rvalid_noc (p q : Int) (w : World) (h : (1 ≤ q ∧ q ≤ 4611686018427387904) ∧ p < -4611686018427387904) :
    Calls Try.prog 13 #[.agg #[.int .i64 p, .int .i64 q]] w (RetV (.bool false) w) := by
  have d0 : decide (q < 1) = false := decide_eq_false (by omega)
  have d1 : decide (4611686018427387904 < q) = false := decide_eq_false (by omega)
  have d2 : decide (p < -4611686018427387904) = true := decide_eq_true (by omega)
  clear h
  go_enter Try.func13, Try.ntmps13
  go_wp2
  go_ret
  exact ⟨rfl, (Below.refl _ _).alloc (Nat.le_refl _) _⟩

set_option maxRecDepth 100000 in
set_option maxHeartbeats 1600000 in
theorem rvalid_nod (p q : Int) (w : World) (h : (1 ≤ q ∧ q ≤ 4611686018427387904) ∧ -4611686018427387904 ≤ p ∧ 4611686018427387904 < p) :
    Calls Try.prog 13 #[.agg #[.int .i64 p, .int .i64 q]] w (RetV (.bool false) w) := by
  have d0 : decide (q < 1) = false := decide_eq_false (by omega)
  have d1 : decide (4611686018427387904 < q) = false := decide_eq_false (by omega)
  have d2 : decide (p < -4611686018427387904) = false := decide_eq_false (by omega)
  have d3 : decide (4611686018427387904 < p) = true := decide_eq_true (by omega)
  clear h
  go_enter Try.func13, Try.ntmps13
  go_wp2
  go_ret
  exact ⟨rfl, (Below.refl _ _).alloc (Nat.le_refl _) _⟩

theorem rvalid_any (p q : Int) (w : World) : Calls Try.prog 13 #[.agg #[.int .i64 p, .int .i64 q]] w (RetV (.bool (decide (FOk (p, q)))) w) := by
  by_cases h1 : q < 1
  · rw [decide_eq_false (by intro h; have := h.1; simp at this; omega)]; exact rvalid_noa p q w h1
  · by_cases h2 : 4611686018427387904 < q
    · rw [decide_eq_false (by intro h; have := h.2.1; simp at this; omega)]; exact rvalid_nob p q w h2
    · by_cases h3 : p < -4611686018427387904
      · rw [decide_eq_false (by intro h; have := h.2.2.1; simp at this; omega)]; exact rvalid_noc p q w ⟨⟨by omega, by omega⟩, h3⟩
      · by_cases h4 : 4611686018427387904 < p
        · rw [decide_eq_false (by intro h; have := h.2.2.1; simp at this; omega)]; exact rvalid_nod p q w ⟨⟨by omega, by omega⟩, by omega, h4⟩
        · have := rvalid_yes p q w (by omega) (by omega) (by omega) (by omega)
          rwa [show decide (Int.gcd p q = 1) = decide (FOk (p, q)) from decide_eq_decide.2 ⟨fun h => ⟨by show 1 ≤ q; omega, by show q ≤ 4611686018427387904; omega, by show p.natAbs ≤ 4611686018427387904; omega, h⟩, fun h => h.2.2.2⟩] at this
end Go.Proofs.Ytklngjjokbhfpaa
