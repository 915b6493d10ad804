/- Fractions in lowest terms: sums and products, their laws. No program in sight. -/
import Derived.Test.YtklngjjokbhfpaaGreatPkDl
import Derived.Test.YtklngjjokbhfpaaGreatPkCk
namespace Go.Proofs.YtklngjjokbhfpaaGreat
open Go.RowKit

/-- p/q in lowest terms. -/
def lowP (p q : Int) : Int × Int := (p / (Int.gcd p q : Nat), q / (Int.gcd p q : Nat))
theorem lowV_eq (p q : Int) : lowV p q = fracV (lowP p q).1 (lowP p q).2 := rfl
theorem lowP_out {p q : Int} (hq : 0 < q) : (lowP p q).1 * q = p * (lowP p q).2 ∧ 1 ≤ (lowP p q).2 ∧ Nat.gcd (lowP p q).1.natAbs (lowP p q).2.natAbs = 1 ∧ (lowP p q).1.natAbs ≤ p.natAbs ∧ (lowP p q).2 ≤ q := by
  unfold lowP
  have hg0 : 0 < Int.gcd p q := Int.gcd_pos_of_ne_zero_right p (by omega)
  have d1 : ((Int.gcd p q : Nat) : Int) ∣ p := Int.gcd_dvd_left ..
  have d2 : ((Int.gcd p q : Nat) : Int) ∣ q := Int.gcd_dvd_right ..
  have a1 := ediv_natAbs (by omega) d1
  have a2 := ediv_natAbs (by omega) d2
  rw [Int.natAbs_natCast] at a1 a2
  have hc := Nat.coprime_div_gcd_div_gcd (show 0 < Nat.gcd p.natAbs q.natAbs from hg0)
  have l1 : p.natAbs / Int.gcd p q ≤ p.natAbs := Nat.div_le_self _ _
  have l2 : q / (Int.gcd p q : Nat) ≤ q := Int.ediv_le_self _ (by omega)
  have b1 : p / (Int.gcd p q : Nat) * (Int.gcd p q : Nat) = p := Int.ediv_mul_cancel d1
  have b2 : q / (Int.gcd p q : Nat) * (Int.gcd p q : Nat) = q := Int.ediv_mul_cancel d2
  dsimp only
  rw [a1, a2]
  refine ⟨?_, ?_, hc, l1, l2⟩
  · generalize ((Int.gcd p q : Nat) : Int) = g at *
    generalize p / g = n at *
    generalize q / g = d at *
    subst b1
    conv => lhs; rw [← b2]
    grind
  · have : 0 < q / ((Int.gcd p q : Nat) : Int) * ((Int.gcd p q : Nat) : Int) := by omega
    have := Int.pos_of_mul_pos_left this (by omega)
    omega
theorem low_unique {n d n' d' : Int} (hd : 1 ≤ d) (hd' : 1 ≤ d') (h : Nat.gcd n.natAbs d.natAbs = 1) (h' : Nat.gcd n'.natAbs d'.natAbs = 1) (he : n * d' = n' * d) : n = n' ∧ d = d' := by
  have a1 := same_low hd hd' h he.symm
  have a2 := same_low hd' hd h' he
  omega
theorem lowP_eq {p q r s : Int} (hq : 0 < q) (hs : 0 < s) (h : p * s = r * q) : lowP p q = lowP r s := by
  obtain ⟨a1, a2, a3, _, _⟩ := lowP_out (p := p) hq
  obtain ⟨b1, b2, b3, _, _⟩ := lowP_out (p := r) hs
  have he : (lowP p q).1 * (lowP r s).2 = (lowP r s).1 * (lowP p q).2 := by
    generalize lowP p q = x at *
    generalize lowP r s = y at *
    have e1 : x.1 * y.2 * (q * s) = y.1 * x.2 * (q * s) := by
      have : x.1 * y.2 * (q * s) = (x.1 * q) * (y.2 * s) := by grind
      have e2 : y.1 * x.2 * (q * s) = (y.1 * s) * (x.2 * q) := by grind
      rw [this, e2, a1, b1]
      have e3 : p * x.2 * (y.2 * s) = (p * s) * (x.2 * y.2) := by grind
      have e4 : r * y.2 * (x.2 * q) = (r * q) * (x.2 * y.2) := by grind
      rw [e3, e4, h]
    exact Int.eq_of_mul_eq_mul_right (by have := Int.mul_pos hq hs; omega) e1
  obtain ⟨c1, c2⟩ := low_unique a2 b2 a3 b3 he
  exact Prod.ext c1 c2
theorem lowP_self {p q : Int} (hq : 1 ≤ q) (h : Nat.gcd p.natAbs q.natAbs = 1) : lowP p q = (p, q) := by
  obtain ⟨a1, a2, a3, _, _⟩ := lowP_out (p := p) (q := q) (by omega)
  obtain ⟨c1, c2⟩ := low_unique a2 hq a3 h a1
  exact Prod.ext c1 c2
def addP (a b : Int × Int) : Int × Int := lowP (a.1 * b.2 + b.1 * a.2) (a.2 * b.2)
def subP (a b : Int × Int) : Int × Int := lowP (a.1 * b.2 - b.1 * a.2) (a.2 * b.2)
def mulP (a b : Int × Int) : Int × Int := lowP (a.1 * b.1) (a.2 * b.2)

theorem addP_low {p q : Int} {c : Int × Int} (hq : 0 < q) (hc : 0 < c.2) : addP (lowP p q) c = lowP (p * c.2 + c.1 * q) (q * c.2) := by
  obtain ⟨a1, a2, _⟩ := lowP_out (p := p) hq
  unfold addP
  generalize lowP p q = x at *
  refine lowP_eq (Int.mul_pos (by omega) hc) (Int.mul_pos hq hc) ?_
  have e1 : (x.1 * c.2 + c.1 * x.2) * (q * c.2) = (x.1 * q) * (c.2 * c.2) + c.1 * x.2 * q * c.2 := by grind
  rw [e1, a1]
  grind
theorem addP_comm (a b : Int × Int) : addP a b = addP b a := by
  unfold addP
  rw [Int.add_comm, Int.mul_comm a.2]
theorem mulP_comm (a b : Int × Int) : mulP a b = mulP b a := by
  unfold mulP
  rw [Int.mul_comm a.1, Int.mul_comm a.2]
theorem mulP_low {p q : Int} {c : Int × Int} (hq : 0 < q) (hc : 0 < c.2) : mulP (lowP p q) c = lowP (p * c.1) (q * c.2) := by
  obtain ⟨a1, a2, _⟩ := lowP_out (p := p) hq
  unfold mulP
  generalize lowP p q = x at *
  refine lowP_eq (Int.mul_pos (by omega) hc) (Int.mul_pos hq hc) ?_
  have e1 : x.1 * c.1 * (q * c.2) = (x.1 * q) * (c.1 * c.2) := by grind
  rw [e1, a1]
  grind
theorem subP_low {p q : Int} {c : Int × Int} (hq : 0 < q) (hc : 0 < c.2) : subP (lowP p q) c = lowP (p * c.2 - c.1 * q) (q * c.2) := by
  obtain ⟨a1, a2, _⟩ := lowP_out (p := p) hq
  unfold subP
  generalize lowP p q = x at *
  refine lowP_eq (Int.mul_pos (by omega) hc) (Int.mul_pos hq hc) ?_
  have e1 : (x.1 * c.2 - c.1 * x.2) * (q * c.2) = (x.1 * q) * (c.2 * c.2) - c.1 * x.2 * q * c.2 := by grind
  rw [e1, a1]
  grind
theorem addP_assoc {a b c : Int × Int} (ha : 0 < a.2) (hb : 0 < b.2) (hc : 0 < c.2) : addP (addP a b) c = addP a (addP b c) := by
  rw [addP_comm a (addP b c)]
  unfold addP at *
  have h1 := addP_low (p := a.1 * b.2 + b.1 * a.2) (q := a.2 * b.2) (c := c) (Int.mul_pos ha hb) hc
  have h2 := addP_low (p := b.1 * c.2 + c.1 * b.2) (q := b.2 * c.2) (c := a) (Int.mul_pos hb hc) ha
  unfold addP at h1 h2
  rw [h1, h2]
  refine lowP_eq (Int.mul_pos (Int.mul_pos ha hb) hc) (Int.mul_pos (Int.mul_pos hb hc) ha) ?_
  grind
theorem mulP_assoc {a b c : Int × Int} (ha : 0 < a.2) (hb : 0 < b.2) (hc : 0 < c.2) : mulP (mulP a b) c = mulP a (mulP b c) := by
  rw [mulP_comm a (mulP b c)]
  have h1 := mulP_low (p := a.1 * b.1) (q := a.2 * b.2) (c := c) (Int.mul_pos ha hb) hc
  have h2 := mulP_low (p := b.1 * c.1) (q := b.2 * c.2) (c := a) (Int.mul_pos hb hc) ha
  unfold mulP at *
  rw [h1, h2]
  refine lowP_eq (Int.mul_pos (Int.mul_pos ha hb) hc) (Int.mul_pos (Int.mul_pos hb hc) ha) ?_
  grind
theorem mulP_addP {a b c : Int × Int} (ha : 0 < a.2) (hb : 0 < b.2) (hc : 0 < c.2) : mulP a (addP b c) = addP (mulP a b) (mulP a c) := by
  rw [mulP_comm a]
  have h1 := mulP_low (p := b.1 * c.2 + c.1 * b.2) (q := b.2 * c.2) (c := a) (Int.mul_pos hb hc) ha
  have h3 := (lowP_out (p := a.1 * c.1) (q := a.2 * c.2) (Int.mul_pos ha hc))
  have h2 := addP_low (p := a.1 * b.1) (q := a.2 * b.2) (c := mulP a c) (Int.mul_pos ha hb) (by unfold mulP; omega)
  unfold addP mulP at *
  rw [h1, h2]
  obtain ⟨h4, h5, _⟩ := h3
  generalize lowP (a.1 * c.1) (a.2 * c.2) = y at *
  refine lowP_eq (Int.mul_pos (Int.mul_pos hb hc) ha) (Int.mul_pos (Int.mul_pos ha hb) (by omega)) ?_
  have e1 : (a.1 * b.1 * y.2 + y.1 * (a.2 * b.2)) * (b.2 * c.2 * a.2) = a.1 * b.1 * y.2 * b.2 * c.2 * a.2 + (y.1 * (a.2 * c.2)) * (a.2 * b.2 * b.2) := by grind
  rw [e1, h4]
  grind
theorem subP_addP {a b : Int × Int} (ha : 1 ≤ a.2) (hb : 0 < b.2) (hl : Nat.gcd a.1.natAbs a.2.natAbs = 1) : subP (addP a b) b = a := by
  have h1 := subP_low (p := a.1 * b.2 + b.1 * a.2) (q := a.2 * b.2) (c := b) (Int.mul_pos (by omega) hb) hb
  unfold addP
  rw [h1, lowP_eq (r := a.1) (s := a.2) (Int.mul_pos (Int.mul_pos (by omega) hb) hb) (by omega) (by grind), lowP_self ha hl]
/-- A quotient: the divisor is not 0. -/
def divP (a b : Int × Int) : Int × Int := if b.1 < 0 then lowP (-(a.1 * b.2)) (-(a.2 * b.1)) else lowP (a.1 * b.2) (a.2 * b.1)
theorem divP_mulP {a b : Int × Int} (ha : 1 ≤ a.2) (hb : 0 < b.2) (hn : b.1 ≠ 0) (hl : Nat.gcd a.1.natAbs a.2.natAbs = 1) : divP (mulP a b) b = a := by
  obtain ⟨a1, a2, _⟩ := lowP_out (p := a.1 * b.1) (q := a.2 * b.2) (Int.mul_pos (by omega) hb)
  unfold divP mulP
  generalize lowP (a.1 * b.1) (a.2 * b.2) = x at *
  have he : (x.1 * b.2 * a.2) = a.1 * (x.2 * b.1) := by grind
  show _ = (a.1, a.2)
  rw [← lowP_self ha hl]
  split
  · rename_i h
    refine lowP_eq (by have := Int.mul_pos (show 0 < x.2 by omega) (show 0 < -b.1 by omega); rw [Int.mul_neg] at this; exact this) (by omega) (by rw [Int.neg_mul, he, Int.mul_neg])
  · exact lowP_eq (Int.mul_pos (by omega) (by omega)) (by omega) he

/-- Bounds. -/
theorem addP_bound {a b : Int × Int} {M N K L : Nat} (ha : 1 ≤ a.2) (hb : 1 ≤ b.2) (h1 : a.1.natAbs ≤ M) (h2 : a.2.natAbs ≤ N) (h3 : b.1.natAbs ≤ K) (h4 : b.2.natAbs ≤ L) :
    1 ≤ (addP a b).2 ∧ Nat.gcd (addP a b).1.natAbs (addP a b).2.natAbs = 1 ∧ (addP a b).1.natAbs ≤ M * L + K * N ∧ (addP a b).2.natAbs ≤ N * L := by
  obtain ⟨_, a2, a3, a4, a5⟩ := lowP_out (p := a.1 * b.2 + b.1 * a.2) (q := a.2 * b.2) (Int.mul_pos (by omega) (by omega))
  have e1 := Int.natAbs_add_le (a.1 * b.2) (b.1 * a.2)
  rw [Int.natAbs_mul, Int.natAbs_mul] at e1
  have e2 := Nat.mul_le_mul h1 h4
  have e3 := Nat.mul_le_mul h3 h2
  have e4 := Nat.mul_le_mul h2 h4
  have e5 : (a.2 * b.2).natAbs = a.2.natAbs * b.2.natAbs := Int.natAbs_mul _ _
  unfold addP
  exact ⟨a2, a3, by omega, by omega⟩
theorem subP_bound {a b : Int × Int} {M N K L : Nat} (ha : 1 ≤ a.2) (hb : 1 ≤ b.2) (h1 : a.1.natAbs ≤ M) (h2 : a.2.natAbs ≤ N) (h3 : b.1.natAbs ≤ K) (h4 : b.2.natAbs ≤ L) :
    1 ≤ (subP a b).2 ∧ Nat.gcd (subP a b).1.natAbs (subP a b).2.natAbs = 1 ∧ (subP a b).1.natAbs ≤ M * L + K * N ∧ (subP a b).2.natAbs ≤ N * L := by
  obtain ⟨_, a2, a3, a4, a5⟩ := lowP_out (p := a.1 * b.2 - b.1 * a.2) (q := a.2 * b.2) (Int.mul_pos (by omega) (by omega))
  have e1 := Int.natAbs_sub_le (a.1 * b.2) (b.1 * a.2)
  rw [Int.natAbs_mul, Int.natAbs_mul] at e1
  have e2 := Nat.mul_le_mul h1 h4
  have e3 := Nat.mul_le_mul h3 h2
  have e4 := Nat.mul_le_mul h2 h4
  have e5 : (a.2 * b.2).natAbs = a.2.natAbs * b.2.natAbs := Int.natAbs_mul _ _
  unfold subP
  exact ⟨a2, a3, by omega, by omega⟩
theorem mulP_bound {a b : Int × Int} {M N K L : Nat} (ha : 1 ≤ a.2) (hb : 1 ≤ b.2) (h1 : a.1.natAbs ≤ M) (h2 : a.2.natAbs ≤ N) (h3 : b.1.natAbs ≤ K) (h4 : b.2.natAbs ≤ L) :
    1 ≤ (mulP a b).2 ∧ Nat.gcd (mulP a b).1.natAbs (mulP a b).2.natAbs = 1 ∧ (mulP a b).1.natAbs ≤ M * K ∧ (mulP a b).2.natAbs ≤ N * L := by
  obtain ⟨_, a2, a3, a4, a5⟩ := lowP_out (p := a.1 * b.1) (q := a.2 * b.2) (Int.mul_pos (by omega) (by omega))
  rw [Int.natAbs_mul] at a4
  have e2 := Nat.mul_le_mul h1 h3
  have e4 := Nat.mul_le_mul h2 h4
  have e5 : (a.2 * b.2).natAbs = a.2.natAbs * b.2.natAbs := Int.natAbs_mul _ _
  unfold mulP
  exact ⟨a2, a3, by omega, by omega⟩
theorem fracV_in {p q : Int} (hp : p.natAbs ≤ 4611686018427387904) (hq : q.natAbs ≤ 4611686018427387904) : fracV p q = .tuple #[.agg #[.int .i64 p, .int .i64 q], .int .i64 0] := by
  unfold fracV
  rw [if_pos (by omega)]
/-- Comparing. -/
theorem low_cmp {p q n d : Int} (hq : 0 < q) (hd : 0 < d) (h : n * q = p * d) (r s r' s' : Int) (hs : 0 < s) (hs' : 0 < s') (h' : r * s' = r' * s) : sgn (n * s - r * d) = sgn (p * s' - r' * q) := by
  have e1 : (n * s - r * d) * (q * s') = (p * s' - r' * q) * (d * s) := by
    have a1 : (n * s - r * d) * (q * s') = (n * q) * (s * s') - (r * s') * (d * q) := by grind
    rw [a1, h, h']
    grind
  have k1 : 0 < q * s' := Int.mul_pos hq hs'
  have k2 : 0 < d * s := Int.mul_pos hd hs
  generalize n * s - r * d = x at *
  generalize p * s' - r' * q = y at *
  generalize q * s' = a at *
  generalize d * s = b at *
  unfold sgn
  rcases Int.lt_trichotomy x 0 with hx | hx | hx
  · have z1 : x * a < 0 := Int.mul_neg_of_neg_of_pos hx k1
    have z2 : y < 0 := by
      by_cases hy : y < 0
      · exact hy
      · have := Int.mul_nonneg (show 0 ≤ y by omega) (show 0 ≤ b by omega); omega
    rw [if_pos hx, if_pos z2]
  · subst hx
    have z2 : y = 0 := by
      have : y * b = 0 := by omega
      rcases Int.mul_eq_zero.1 this with h | h <;> omega
    subst z2; rfl
  · have z1 : 0 < x * a := Int.mul_pos hx k1
    have z2 : 0 < y := by
      by_cases hy : 0 < y
      · exact hy
      · have := Int.mul_nonpos_of_nonpos_of_nonneg (show y ≤ 0 by omega) (show 0 ≤ b by omega); omega
    rw [if_neg (by omega), if_neg (by omega), if_neg (by omega), if_neg (by omega)]
end Go.Proofs.YtklngjjokbhfpaaGreat
