/- Lowest terms, and the fraction that is the answer: plain. -/
import Derived.Test.YtklngjjokbhfpaaGreatCj
namespace Go.Proofs.YtklngjjokbhfpaaGreat
open Go.RowKit

/-- What Frac answers of a fraction in lowest terms. -/
def fracV (a b : Int) : Value := if (-4611686018427387904 ≤ a ∧ a ≤ 4611686018427387904) ∧ (-4611686018427387904 ≤ b ∧ b ≤ 4611686018427387904) then .tuple #[.agg #[.int .i64 a, .int .i64 b], .int .i64 0] else .tuple #[.agg #[.int .i64 0, .int .i64 0], .int .i64 5]
theorem neg_div_dvd {m g : Int} (hg : 0 < g) (h : g ∣ m) : -(m / g) = -m / g := by
  obtain ⟨k, rfl⟩ := h
  rw [Int.mul_ediv_cancel_left _ (by omega), ← Int.mul_neg, Int.mul_ediv_cancel_left _ (by omega)]
theorem smallV_in {z : Int} (h : -4611686018427387904 ≤ z ∧ z ≤ 4611686018427387904) : smallV z = .tuple #[.int .i64 z, .bool true] := by unfold smallV; rw [if_pos h]
theorem smallV_out {z : Int} (h : ¬ (-4611686018427387904 ≤ z ∧ z ≤ 4611686018427387904)) : smallV z = .tuple #[.int .i64 0, .bool false] := by unfold smallV; rw [if_neg h]
theorem fracV_form (a b : Int) : ∃ n d e : Int, fracV a b = .tuple #[.agg #[.int .i64 n, .int .i64 d], .int .i64 e] := by
  unfold fracV
  split
  · exact ⟨_, _, _, rfl⟩
  · exact ⟨_, _, _, rfl⟩
/-- A fraction of two integers, in lowest terms. -/
def lowV (p q : Int) : Value := fracV (p / (Int.gcd p q : Nat)) (q / (Int.gcd p q : Nat))
/-- A fraction that is the same as one in lowest terms. -/
theorem same_low {m k n d : Int} (hd : 1 ≤ d) (hk : 1 ≤ k) (hl : Nat.gcd n.natAbs d.natAbs = 1) (h : m * d = n * k) : d < k ∨ d = k ∧ n = m := by
  have h1 : d ∣ n * k := ⟨m, by rw [← h, Int.mul_comm]⟩
  have h2 : d.natAbs ∣ n.natAbs * k.natAbs := by rw [← Int.natAbs_mul]; exact Int.natAbs_dvd_natAbs.2 h1
  have h3 : d.natAbs ∣ k.natAbs := Nat.Coprime.dvd_of_dvd_mul_left (Nat.Coprime.symm hl) h2
  have h4 := Nat.le_of_dvd (by omega) h3
  rcases Int.lt_or_eq_of_le (show d ≤ k by omega) with h5 | h5
  · exact .inl h5
  · subst h5
    exact .inr ⟨rfl, (Int.eq_of_mul_eq_mul_right (by omega) h).symm⟩
theorem ediv_natAbs {p g : Int} (hg : 0 < g) (h : g ∣ p) : (p / g).natAbs = p.natAbs / g.natAbs := by
  obtain ⟨k, rfl⟩ := h
  rw [Int.mul_ediv_cancel_left _ (by omega), Int.natAbs_mul, Nat.mul_div_cancel_left _ (by omega)]
theorem low_ok {p q : Int} (hq : 0 < q) (hq2 : q ≤ 4611686018427387904) (hp : p.natAbs ≤ 4611686018427387904) : FOk (p / (Int.gcd p q : Nat), q / (Int.gcd p q : Nat)) ∧ (p / (Int.gcd p q : Nat)).natAbs ≤ p.natAbs ∧ q / (Int.gcd p q : Nat) ≤ q := by
  have hg0 : 0 < Int.gcd p q := Int.gcd_pos_of_ne_zero_right p (by omega)
  have d1 : ((Int.gcd p q : Nat) : Int) ∣ p := Int.gcd_dvd_left ..
  have d2 : ((Int.gcd p q : Nat) : Int) ∣ q := Int.gcd_dvd_right ..
  have a1 := ediv_natAbs (by omega) d1
  have a2 := ediv_natAbs (by omega) d2
  rw [Int.natAbs_natCast] at a1 a2
  have l1 : p.natAbs / Int.gcd p q ≤ p.natAbs := Nat.div_le_self _ _
  have l2 : q / (Int.gcd p q : Nat) ≤ q := Int.ediv_le_self _ (by omega)
  have l3 : 1 ≤ q / (Int.gcd p q : Nat) := by
    obtain ⟨k, hk⟩ := d2
    have hk0 : 0 < k := Int.pos_of_mul_pos_right (a := ((Int.gcd p q : Nat) : Int)) (by omega) (by omega)
    have : q / ((Int.gcd p q : Nat) : Int) = k := by
      conv => lhs; lhs; rw [hk]
      rw [Int.mul_ediv_cancel_left _ (by omega)]
    omega
  refine ⟨⟨l3, by show q / _ ≤ _; omega, by show (p / _).natAbs ≤ _; omega, ?_⟩, by omega, l2⟩
  show Nat.gcd (p / _).natAbs (q / _).natAbs = 1
  rw [a1, a2]
  exact Nat.coprime_div_gcd_div_gcd (show 0 < Nat.gcd p.natAbs q.natAbs from hg0)
/-- p/q in lowest terms. -/
def lowP (p q : Int) : Int × Int := (p / (Int.gcd p q : Nat), q / (Int.gcd p q : Nat))
theorem lowV_eq (p q : Int) : lowV p q = fracV (lowP p q).1 (lowP p q).2 := rfl
theorem lowP_out {p q : Int} (hq : 0 < q) : (lowP p q).1 * q = p * (lowP p q).2 ∧ 1 ≤ (lowP p q).2 ∧ Nat.gcd (lowP p q).1.natAbs (lowP p q).2.natAbs = 1 ∧ (lowP p q).1.natAbs ≤ p.natAbs ∧ (lowP p q).2 ≤ q := by
  unfold lowP
  have hg0 : 0 < Int.gcd p q := Int.gcd_pos_of_ne_zero_right p (by omega)
  have d1 : ((Int.gcd p q : Nat) : Int) ∣ p := Int.gcd_dvd_left ..
  have d2 : ((Int.gcd p q : Nat) : Int) ∣ q := Int.gcd_dvd_right ..
  have a1 := ediv_natAbs (by omega) d1
  have a2 := ediv_natAbs (by omega) d2
  rw [Int.natAbs_natCast] at a1 a2
  have hc := Nat.coprime_div_gcd_div_gcd (show 0 < Nat.gcd p.natAbs q.natAbs from hg0)
  have l1 : p.natAbs / Int.gcd p q ≤ p.natAbs := Nat.div_le_self _ _
  have l2 : q / (Int.gcd p q : Nat) ≤ q := Int.ediv_le_self _ (by omega)
  have b1 : p / (Int.gcd p q : Nat) * (Int.gcd p q : Nat) = p := Int.ediv_mul_cancel d1
  have b2 : q / (Int.gcd p q : Nat) * (Int.gcd p q : Nat) = q := Int.ediv_mul_cancel d2
  dsimp only
  rw [a1, a2]
  refine ⟨?_, ?_, hc, l1, l2⟩
  · generalize ((Int.gcd p q : Nat) : Int) = g at *
    generalize p / g = n at *
    generalize q / g = d at *
    subst b1
    conv => lhs; rw [← b2]
    grind
  · have : 0 < q / ((Int.gcd p q : Nat) : Int) * ((Int.gcd p q : Nat) : Int) := by omega
    have := Int.pos_of_mul_pos_left this (by omega)
    omega
theorem low_unique {n d n' d' : Int} (hd : 1 ≤ d) (hd' : 1 ≤ d') (h : Nat.gcd n.natAbs d.natAbs = 1) (h' : Nat.gcd n'.natAbs d'.natAbs = 1) (he : n * d' = n' * d) : n = n' ∧ d = d' := by
  have a1 := same_low hd hd' h he.symm
  have a2 := same_low hd' hd h' he
  omega
theorem lowP_eq {p q r s : Int} (hq : 0 < q) (hs : 0 < s) (h : p * s = r * q) : lowP p q = lowP r s := by
  obtain ⟨a1, a2, a3, _, _⟩ := lowP_out (p := p) hq
  obtain ⟨b1, b2, b3, _, _⟩ := lowP_out (p := r) hs
  have he : (lowP p q).1 * (lowP r s).2 = (lowP r s).1 * (lowP p q).2 := by
    generalize lowP p q = x at *
    generalize lowP r s = y at *
    have e1 : x.1 * y.2 * (q * s) = y.1 * x.2 * (q * s) := by
      have : x.1 * y.2 * (q * s) = (x.1 * q) * (y.2 * s) := by grind
      have e2 : y.1 * x.2 * (q * s) = (y.1 * s) * (x.2 * q) := by grind
      rw [this, e2, a1, b1]
      have e3 : p * x.2 * (y.2 * s) = (p * s) * (x.2 * y.2) := by grind
      have e4 : r * y.2 * (x.2 * q) = (r * q) * (x.2 * y.2) := by grind
      rw [e3, e4, h]
    exact Int.eq_of_mul_eq_mul_right (by have := Int.mul_pos hq hs; omega) e1
  obtain ⟨c1, c2⟩ := low_unique a2 b2 a3 b3 he
  exact Prod.ext c1 c2
theorem lowP_self {p q : Int} (hq : 1 ≤ q) (h : Nat.gcd p.natAbs q.natAbs = 1) : lowP p q = (p, q) := by
  obtain ⟨a1, a2, a3, _, _⟩ := lowP_out (p := p) (q := q) (by omega)
  obtain ⟨c1, c2⟩ := low_unique a2 hq a3 h a1
  exact Prod.ext c1 c2
theorem fracV_in {p q : Int} (hp : p.natAbs ≤ 4611686018427387904) (hq : q.natAbs ≤ 4611686018427387904) : fracV p q = .tuple #[.agg #[.int .i64 p, .int .i64 q], .int .i64 0] := by
  unfold fracV
  rw [if_pos (by omega)]

end Go.Proofs.YtklngjjokbhfpaaGreat
