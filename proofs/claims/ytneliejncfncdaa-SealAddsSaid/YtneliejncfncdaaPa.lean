/- Polynomials over a field of a prime order: a polynomial with as many roots as elements is 0. Pure mathematics. -/
import Derived.Test.YtneliejncfncdaaX
namespace PM
/-- q is a prime order. -/
structure Pr (q : Int) : Prop where
  two : 2 ≤ q
  prime : ∀ a b : Int, q ∣ a * b → q ∣ a ∨ q ∣ b

/-- The value of a polynomial over the integers. -/
def ev : List Int → Int → Int
  | [], _ => 0
  | c :: cs, x => c + x * ev cs x

/-- The quotient of a polynomial by x - a. -/
def dq (a : Int) : List Int → List Int
  | [] => []
  | [_] => []
  | _ :: c :: cs => ev (c :: cs) a :: dq a (c :: cs)

theorem dq_length (a : Int) : ∀ p : List Int, (dq a p).length = p.length - 1
  | [] => rfl
  | [_] => rfl
  | _ :: c :: cs => by
    have := dq_length a (c :: cs)
    simp [dq, this]

theorem ev_dq (a x : Int) : ∀ p : List Int, ev p x = ev (dq a p) x * (x - a) + ev p a
  | [] => by simp [ev, dq]
  | [c] => by simp [ev, dq]
  | c :: d :: cs => by
    have ih := ev_dq a x (d :: cs)
    have e1 : ev (c :: d :: cs) x = c + x * ev (d :: cs) x := rfl
    have e2 : ev (dq a (c :: d :: cs)) x = ev (d :: cs) a + x * ev (dq a (d :: cs)) x := rfl
    have e3 : ev (c :: d :: cs) a = c + a * ev (d :: cs) a := rfl
    rw [e1, e2, e3, ih]
    grind

theorem all_of_dq (q a : Int) : ∀ p : List Int, q ∣ ev p a → (∀ c ∈ dq a p, q ∣ c) → ∀ c ∈ p, q ∣ c
  | [], _, _ => by simp
  | [c], h, _ => by simpa [ev] using h
  | c :: d :: cs, h, hd => by
    have h1 : q ∣ ev (d :: cs) a := hd _ (by simp [dq])
    have ih := all_of_dq q a (d :: cs) h1 (fun x hx => hd x (by rw [dq]; exact List.mem_cons_of_mem _ hx))
    have hc : q ∣ c := by
      have e3 : ev (c :: d :: cs) a = c + a * ev (d :: cs) a := rfl
      rw [e3] at h
      exact (Int.dvd_iff_dvd_of_dvd_add h).2 (Int.dvd_mul_of_dvd_right h1)
    intro x hx
    rcases List.mem_cons.1 hx with rfl | hx
    · exact hc
    · exact ih x hx

/-- A polynomial with no more elements than it has roots is 0. -/
theorem zero_of_roots {q : Int} (hq : Pr q) : ∀ (xs p : List Int), p.length ≤ xs.length → xs.Pairwise (fun a b => ¬ q ∣ a - b) →
    (∀ x ∈ xs, q ∣ ev p x) → ∀ c ∈ p, q ∣ c
  | [], p, hl, _, _ => by
    have : p = [] := List.eq_nil_of_length_eq_zero (by simpa using hl)
    simp [this]
  | a :: ys, p, hl, hp, hr => by
    rw [List.pairwise_cons] at hp
    refine all_of_dq q a p (hr a (by simp)) ?_
    refine zero_of_roots hq ys (dq a p) (by rw [dq_length]; simp at hl; omega) hp.2 fun y hy => ?_
    have h1 := hr y (List.mem_cons_of_mem _ hy)
    have h2 := hr a (by simp)
    rw [ev_dq a y p] at h1
    have h3 : q ∣ ev (dq a p) y * (y - a) := (Int.dvd_iff_dvd_of_dvd_add h1).2 h2
    rcases hq.prime _ _ h3 with h | h
    · exact h
    · exact absurd (by rw [show a - y = -(y - a) by omega]; exact Int.dvd_neg.2 h) (hp.1 y hy)

/-- Two polynomials of one length with elements of the field, that have the same values at so many places, are the same. -/
theorem eq_of_values {q : Int} (hq : Pr q) (xs p r : List Int) (hp : p.length ≤ xs.length) (hl : p.length = r.length) (hx : xs.Pairwise (fun a b => ¬ q ∣ a - b))
    (hpe : ∀ c ∈ p, 0 ≤ c ∧ c < q) (hre : ∀ c ∈ r, 0 ≤ c ∧ c < q) (hv : ∀ x ∈ xs, q ∣ ev p x - ev r x) : p = r := by
  have hev : ∀ (p r : List Int) (x : Int), p.length = r.length → ev (List.zipWith (· - ·) p r) x = ev p x - ev r x := by
    intro p
    induction p with
    | nil => intro r x h; cases r with
      | nil => simp [ev]
      | cons _ _ => simp at h
    | cons c cs ih => intro r x h; cases r with
      | nil => simp at h
      | cons d ds =>
        have := ih ds x (by simpa using h)
        simp only [List.zipWith, ev, this]
        grind
  have hz := zero_of_roots hq xs (List.zipWith (· - ·) p r) (by simp; omega) hx (fun x hx => by rw [hev p r x hl]; exact hv x hx)
  refine List.ext_getElem hl fun i h1 h2 => ?_
  have hd : q ∣ p[i] - r[i] := hz _ (List.mem_iff_getElem.2 ⟨i, by simp; omega, by simp⟩)
  have a1 := hpe p[i] (List.getElem_mem h1)
  have a2 := hre r[i] (List.getElem_mem h2)
  have := Int.emod_emod_of_dvd (p[i] - r[i]) (Int.dvd_refl q)
  obtain ⟨k, hk⟩ := hd
  have hq2 := hq.two
  have hk0 : k = 0 := by
    rcases Int.lt_trichotomy k 0 with h | h | h
    · have : q * k ≤ q * (-1) := Int.mul_le_mul_of_nonneg_left (by omega) (by omega)
      omega
    · exact h
    · have : q * 1 ≤ q * k := Int.mul_le_mul_of_nonneg_left (by omega) (by omega)
      omega
  subst hk0
  omega
end PM
