/- The simplest fraction between two: the plain model and what it answers. No program in sight. -/
import Derived.WalkKit
namespace Go.Proofs.YtbkgbkmpalbdpaaGreatDoor.G

/-- The simplest fraction between two that are above 0. -/
def simpM : Nat → Int → Int → Int → Int → Int × Int
  | 0, p, q, _, _ => (p, q)
  | f + 1, p, q, r, s =>
    if q = 1 then (p, q)
    else if (p / q + 1) * s ≤ r then (p / q + 1, 1)
    else (p / q * (simpM f s (r - p / q * s) q (p - p / q * q)).1 + (simpM f s (r - p / q * s) q (p - p / q * q)).2, (simpM f s (r - p / q * s) q (p - p / q * q)).1)

/-- Two fractions above 0, the first one not above the second. -/
structure SOk (p q r s : Int) : Prop where
  p1 : 1 ≤ p
  p2 : p ≤ 4611686018427387904
  q1 : 1 ≤ q
  q2 : q ≤ 4611686018427387904
  r1 : 1 ≤ r
  r2 : r ≤ 4611686018427387904
  s1 : 1 ≤ s
  s2 : s ≤ 4611686018427387904
  le : p * s ≤ r * q
  g1 : Int.gcd p q = 1
  g2 : Int.gcd r s = 1

theorem gcd_sub_mul (a b w : Int) : Int.gcd b (a - w * b) = Int.gcd a b := by
  rw [Int.gcd_comm b, show a - w * b = a + (-w) * b by rw [Int.neg_mul]; omega, Int.gcd_add_mul_right_left]

theorem mod_pos_of_gcd {p q : Int} (hq : 1 ≤ q) (h1 : q ≠ 1) (hg : Int.gcd p q = 1) : 1 ≤ p - p / q * q := by
  have h := Int.mul_ediv_add_emod p q
  have h2 := Int.emod_nonneg p (show q ≠ 0 by omega)
  have h3 : p % q ≠ 0 := fun h0 => by
    have hd : q ∣ p := Int.dvd_of_emod_eq_zero h0
    have h4 : q.natAbs ∣ Int.gcd p q := Nat.dvd_gcd (Int.natAbs_dvd_natAbs.2 hd) (Nat.dvd_refl _)
    rw [hg] at h4
    have := Nat.le_of_dvd (by omega) h4
    omega
  rw [Int.mul_comm q] at h
  omega

theorem SOk.whole {p q r s : Int} (h : SOk p q r s) : 0 ≤ p / q ∧ p / q * q ≤ p ∧ p < p / q * q + q ∧ p / q ≤ p := by
  have h1 := Int.mul_ediv_add_emod p q
  have h2 := Int.emod_nonneg p (show q ≠ 0 by have := h.q1; omega)
  have h3 := Int.emod_lt_of_pos p (show 0 < q by have := h.q1; omega)
  rw [Int.mul_comm] at h1
  have hp := h.p1
  exact ⟨Int.ediv_nonneg (by omega) (by have := h.q1; omega), by omega, by omega, Int.ediv_le_self _ (by omega)⟩

theorem SOk.step {p q r s : Int} (h : SOk p q r s) (hq : q ≠ 1) (hr : ¬ (p / q + 1) * s ≤ r) :
    SOk s (r - p / q * s) q (p - p / q * q) ∧ r - p / q * s < s ∧ p - p / q * q < q := by
  obtain ⟨w0, w1, w2, w3⟩ := h.whole
  have hm := mod_pos_of_gcd h.q1 hq h.g1
  have g1 := gcd_sub_mul r s (p / q)
  have g2 := gcd_sub_mul p q (p / q)
  generalize p / q = w at *
  have hs1 := h.s1
  have hs2 := h.s2
  have hq1 := h.q1
  have hq2 := h.q2
  have hle := h.le
  have hr' : r < w * s + s := by rw [Int.add_mul] at hr; omega
  have hlow : w * s < r := by
    have a1 : (w * q + 1) * s ≤ p * s := Int.mul_le_mul_of_nonneg_right (by omega) (by omega)
    rw [Int.add_mul, Int.one_mul] at a1
    have a2 : w * s * q < r * q := by rw [show w * s * q = w * q * s by rw [Int.mul_assoc, Int.mul_comm s, ← Int.mul_assoc]]; omega
    exact Int.lt_of_mul_lt_mul_right a2 (by omega)
  refine ⟨⟨hs1, hs2, by omega, by omega, hq1, hq2, by omega, by omega, ?_, by rw [g1]; exact h.g2, by rw [g2]; exact h.g1⟩, by omega, by omega⟩
  rw [Int.mul_sub, Int.mul_sub]
  have e1 : s * (w * q) = q * (w * s) := by rw [← Int.mul_assoc, Int.mul_comm s w, Int.mul_assoc, Int.mul_comm s q, ← Int.mul_assoc, Int.mul_comm w q, Int.mul_assoc]
  have e2 : s * p = p * s := Int.mul_comm _ _
  have e3 : q * r = r * q := Int.mul_comm _ _
  omega

/-- What the simplest one is: between the two; no other one has a lesser numerator or a lesser denominator. -/
theorem simpM_spec : ∀ (f : Nat) (p q r s : Int), SOk p q r s → q + s ≤ f →
    1 ≤ (simpM f p q r s).1 ∧ 1 ≤ (simpM f p q r s).2 ∧ Int.gcd (simpM f p q r s).1 (simpM f p q r s).2 = 1 ∧ p * (simpM f p q r s).2 ≤ (simpM f p q r s).1 * q ∧ (simpM f p q r s).1 * s ≤ r * (simpM f p q r s).2 ∧
      ∀ a b : Int, 1 ≤ b → p * b ≤ a * q → a * s ≤ r * b → (simpM f p q r s).1 ≤ a ∧ (simpM f p q r s).2 ≤ b
  | 0, p, q, r, s, h, hf => by have := h.q1; have := h.s1; omega
  | f + 1, p, q, r, s, h, hf => by
    obtain ⟨w0, w1, w2, w3⟩ := h.whole
    have hp1 := h.p1
    have hq1 := h.q1
    have hs1 := h.s1
    have hle := h.le
    by_cases hq : q = 1
    · have e : simpM (f + 1) p q r s = (p, q) := by simp [simpM, hq]
      rw [e]
      refine ⟨hp1, hq1, h.g1, Int.le_refl _, h.le, fun a b hb h1 h2 => ?_⟩
      subst hq
      simp only [Int.mul_one] at h1
      have : p * 1 ≤ p * b := Int.mul_le_mul_of_nonneg_left hb (by omega)
      simp only at *
      omega
    · have hm := mod_pos_of_gcd hq1 hq h.g1
      -- every fraction from the first one on is above the whole number
      have hab : ∀ a b : Int, 1 ≤ b → p * b ≤ a * q → p / q * b < a := fun a b hb h1 => by
        have a1 : (p / q * q + 1) * b ≤ p * b := Int.mul_le_mul_of_nonneg_right (by omega) (by omega)
        rw [Int.add_mul, Int.one_mul] at a1
        have a2 : p / q * b * q < a * q := by rw [show p / q * b * q = p / q * q * b by rw [Int.mul_assoc, Int.mul_comm b, ← Int.mul_assoc]]; omega
        exact Int.lt_of_mul_lt_mul_right a2 (by omega)
      by_cases hr : (p / q + 1) * s ≤ r
      · have e : simpM (f + 1) p q r s = (p / q + 1, 1) := by simp [simpM, hq, hr]
        rw [e]
        refine ⟨by simp only; omega, by simp, by simp, by simp only [Int.add_mul, Int.mul_one, Int.one_mul]; omega, by simpa using hr, fun a b hb h1 h2 => ?_⟩
        have := hab a b hb h1
        have : p / q * 1 ≤ p / q * b := Int.mul_le_mul_of_nonneg_left hb w0
        simp only
        omega
      · obtain ⟨hn, hl1, hl2⟩ := h.step hq hr
        have e : simpM (f + 1) p q r s = (p / q * (simpM f s (r - p / q * s) q (p - p / q * q)).1 + (simpM f s (r - p / q * s) q (p - p / q * q)).2, (simpM f s (r - p / q * s) q (p - p / q * q)).1) := by simp only [simpM, hq, hr, if_false]
        rw [e]
        obtain ⟨i1, i2, i3, i4, i5, i6⟩ := simpM_spec f s (r - p / q * s) q (p - p / q * q) hn (by omega)
        generalize simpM f s (r - p / q * s) q (p - p / q * q) = x at *
        obtain ⟨n, d⟩ := x
        simp only at *
        generalize p / q = w at *
        have hwn : 0 ≤ w * n := Int.mul_nonneg w0 (by omega)
        refine ⟨by omega, i1, ?_, ?_, ?_, fun a b hb h1 h2 => ?_⟩
        · rw [Int.add_comm, Int.gcd_add_mul_right_left, Int.gcd_comm]; exact i3
        · rw [Int.mul_sub] at i5
          have e1 : n * (w * q) = w * n * q := by rw [← Int.mul_assoc, Int.mul_comm n w]
          have e2 : p * n = n * p := Int.mul_comm _ _
          have e3 : d * q = q * d := Int.mul_comm _ _
          rw [Int.add_mul]
          omega
        · rw [Int.mul_sub] at i4
          have e1 : n * (w * s) = w * n * s := by rw [← Int.mul_assoc, Int.mul_comm n w]
          have e2 : r * n = n * r := Int.mul_comm _ _
          have e3 : d * s = s * d := Int.mul_comm _ _
          rw [Int.add_mul]
          omega
        · have h3 := hab a b hb h1
          have := i6 b (a - w * b) (by omega) (by
            rw [Int.mul_sub, Int.mul_sub]
            have e1 : s * (w * b) = b * (w * s) := by rw [← Int.mul_assoc, Int.mul_comm s w, Int.mul_assoc, Int.mul_comm s b, ← Int.mul_assoc, Int.mul_comm w b, Int.mul_assoc]
            have e2 : s * a = a * s := Int.mul_comm _ _
            have e3 : b * r = r * b := Int.mul_comm _ _
            omega) (by
            rw [Int.mul_sub, Int.mul_sub]
            have e1 : b * (w * q) = q * (w * b) := by rw [← Int.mul_assoc, Int.mul_comm b w, Int.mul_assoc, Int.mul_comm b q, ← Int.mul_assoc, Int.mul_comm w q, Int.mul_assoc]
            have e2 : b * p = p * b := Int.mul_comm _ _
            have e3 : q * a = a * q := Int.mul_comm _ _
            omega)
          have h4 : w * n ≤ w * b := Int.mul_le_mul_of_nonneg_left this.1 w0
          omega

/-- The bounds that the code wants. -/
theorem simpM_le {f : Nat} {p q r s : Int} (h : SOk p q r s) (hf : q + s ≤ f) : (simpM f p q r s).1 ≤ p ∧ (simpM f p q r s).2 ≤ q :=
  (simpM_spec f p q r s h hf).2.2.2.2.2 p q h.q1 (Int.le_refl _) h.le

/-- The simplest fraction between two. -/
def betwM (p q r s : Int) : Int × Int :=
  if p ≤ 0 ∧ 0 ≤ r then (0, 1)
  else if r < 0 then (-(simpM (s + q).toNat (-r) s (-p) q).1, (simpM (s + q).toNat (-r) s (-p) q).2)
  else simpM (q + s).toNat p q r s

end Go.Proofs.YtbkgbkmpalbdpaaGreatDoor.G
