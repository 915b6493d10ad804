/- Texts Pa Pb in one. -/
import Derived.Test.YtneliejncfncdaaPkQ
import Derived.Test.YtneliejncfncdaaPkHa
namespace PM
/-- q is a prime order. -/
structure Pr (q : Int) : Prop where
  two : 2 ≤ q
  prime : ∀ a b : Int, q ∣ a * b → q ∣ a ∨ q ∣ b

/-- The value of a polynomial over the integers. -/
def ev : List Int → Int → Int
  | [], _ => 0
  | c :: cs, x => c + x * ev cs x

/-- The quotient of a polynomial by x - a. -/
def dq (a : Int) : List Int → List Int
  | [] => []
  | [_] => []
  | _ :: c :: cs => ev (c :: cs) a :: dq a (c :: cs)

theorem dq_length (a : Int) : ∀ p : List Int, (dq a p).length = p.length - 1
  | [] => rfl
  | [_] => rfl
  | _ :: c :: cs => by
    have := dq_length a (c :: cs)
    simp [dq, this]

theorem ev_dq (a x : Int) : ∀ p : List Int, ev p x = ev (dq a p) x * (x - a) + ev p a
  | [] => by simp [ev, dq]
  | [c] => by simp [ev, dq]
  | c :: d :: cs => by
    have ih := ev_dq a x (d :: cs)
    have e1 : ev (c :: d :: cs) x = c + x * ev (d :: cs) x := rfl
    have e2 : ev (dq a (c :: d :: cs)) x = ev (d :: cs) a + x * ev (dq a (d :: cs)) x := rfl
    have e3 : ev (c :: d :: cs) a = c + a * ev (d :: cs) a := rfl
    rw [e1, e2, e3, ih]
    grind

theorem all_of_dq (q a : Int) : ∀ p : List Int, q ∣ ev p a → (∀ c ∈ dq a p, q ∣ c) → ∀ c ∈ p, q ∣ c
  | [], _, _ => by simp
  | [c], h, _ => by simpa [ev] using h
  | c :: d :: cs, h, hd => by
    have h1 : q ∣ ev (d :: cs) a := hd _ (by simp [dq])
    have ih := all_of_dq q a (d :: cs) h1 (fun x hx => hd x (by rw [dq]; exact List.mem_cons_of_mem _ hx))
    have hc : q ∣ c := by
      have e3 : ev (c :: d :: cs) a = c + a * ev (d :: cs) a := rfl
      rw [e3] at h
      exact (Int.dvd_iff_dvd_of_dvd_add h).2 (Int.dvd_mul_of_dvd_right h1)
    intro x hx
    rcases List.mem_cons.1 hx with rfl | hx
    · exact hc
    · exact ih x hx

/-- A polynomial with no more elements than it has roots is 0. -/
theorem zero_of_roots {q : Int} (hq : Pr q) : ∀ (xs p : List Int), p.length ≤ xs.length → xs.Pairwise (fun a b => ¬ q ∣ a - b) →
    (∀ x ∈ xs, q ∣ ev p x) → ∀ c ∈ p, q ∣ c
  | [], p, hl, _, _ => by
    have : p = [] := List.eq_nil_of_length_eq_zero (by simpa using hl)
    simp [this]
  | a :: ys, p, hl, hp, hr => by
    rw [List.pairwise_cons] at hp
    refine all_of_dq q a p (hr a (by simp)) ?_
    refine zero_of_roots hq ys (dq a p) (by rw [dq_length]; simp at hl; omega) hp.2 fun y hy => ?_
    have h1 := hr y (List.mem_cons_of_mem _ hy)
    have h2 := hr a (by simp)
    rw [ev_dq a y p] at h1
    have h3 : q ∣ ev (dq a p) y * (y - a) := (Int.dvd_iff_dvd_of_dvd_add h1).2 h2
    rcases hq.prime _ _ h3 with h | h
    · exact h
    · exact absurd (by rw [show a - y = -(y - a) by omega]; exact Int.dvd_neg.2 h) (hp.1 y hy)

/-- Two polynomials of one length with elements of the field, that have the same values at so many places, are the same. -/
theorem eq_of_values {q : Int} (hq : Pr q) (xs p r : List Int) (hp : p.length ≤ xs.length) (hl : p.length = r.length) (hx : xs.Pairwise (fun a b => ¬ q ∣ a - b))
    (hpe : ∀ c ∈ p, 0 ≤ c ∧ c < q) (hre : ∀ c ∈ r, 0 ≤ c ∧ c < q) (hv : ∀ x ∈ xs, q ∣ ev p x - ev r x) : p = r := by
  have hev : ∀ (p r : List Int) (x : Int), p.length = r.length → ev (List.zipWith (· - ·) p r) x = ev p x - ev r x := by
    intro p
    induction p with
    | nil => intro r x h; cases r with
      | nil => simp [ev]
      | cons _ _ => simp at h
    | cons c cs ih => intro r x h; cases r with
      | nil => simp at h
      | cons d ds =>
        have := ih ds x (by simpa using h)
        simp only [List.zipWith, ev, this]
        grind
  have hz := zero_of_roots hq xs (List.zipWith (· - ·) p r) (by simp; omega) hx (fun x hx => by rw [hev p r x hl]; exact hv x hx)
  refine List.ext_getElem hl fun i h1 h2 => ?_
  have hd : q ∣ p[i] - r[i] := hz _ (List.mem_iff_getElem.2 ⟨i, by simp; omega, by simp⟩)
  have a1 := hpe p[i] (List.getElem_mem h1)
  have a2 := hre r[i] (List.getElem_mem h2)
  have := Int.emod_emod_of_dvd (p[i] - r[i]) (Int.dvd_refl q)
  obtain ⟨k, hk⟩ := hd
  have hq2 := hq.two
  have hk0 : k = 0 := by
    rcases Int.lt_trichotomy k 0 with h | h | h
    · have : q * k ≤ q * (-1) := Int.mul_le_mul_of_nonneg_left (by omega) (by omega)
      omega
    · exact h
    · have : q * 1 ≤ q * k := Int.mul_le_mul_of_nonneg_left (by omega) (by omega)
      omega
  subst hk0
  omega
end PM

namespace Go.Proofs.Ytneliejncfncdaa

theorem pe_ev (x : Int) : ∀ l, pe x l = PM.ev l x
  | [] => rfl
  | c :: cs => by rw [pe, PM.ev, pe_ev x cs]

theorem prime_mul : ∀ (q : Fin 32), primeB q.val = true → ∀ a b : Fin 32, a.val < q.val → b.val < q.val → (a.val * b.val) % q.val = 0 → a.val = 0 ∨ b.val = 0 := by decide +kernel
theorem primeB_pr {q : Int} (h : primeB q = true) : PM.Pr q := by
  have hb := prime_bd h
  refine ⟨hb.1, fun a b hab => ?_⟩
  obtain ⟨p, rfl⟩ := Int.eq_ofNat_of_zero_le (show 0 ≤ q by omega)
  have hp : 0 < p := by omega
  have ha1 := Int.emod_nonneg a (show (p : Int) ≠ 0 by omega)
  have ha2 := Int.emod_lt_of_pos a (show (0 : Int) < p by omega)
  have hb1 := Int.emod_nonneg b (show (p : Int) ≠ 0 by omega)
  have hb2 := Int.emod_lt_of_pos b (show (0 : Int) < p by omega)
  have hm : (a % p) * (b % p) % p = 0 := by
    rw [← Int.mul_emod]
    exact Int.emod_eq_zero_of_dvd hab
  obtain ⟨x, hx⟩ := Int.eq_ofNat_of_zero_le ha1
  obtain ⟨y, hy⟩ := Int.eq_ofNat_of_zero_le hb1
  rw [hx, hy] at hm
  have hm' : x * y % p = 0 := by exact_mod_cast hm
  have := prime_mul ⟨p, by omega⟩ h ⟨x, by omega⟩ ⟨y, by omega⟩ (by show x < p; omega) (by show y < p; omega) hm'
  simp only at this
  rcases this with h | h
  · left; exact Int.dvd_of_emod_eq_zero (by omega)
  · right; exact Int.dvd_of_emod_eq_zero (by omega)

/-- How many of the first k satisfy f. -/
def cntN (f : Nat → Bool) : Nat → Nat
  | 0 => 0
  | k + 1 => cntN f k + (if f k = true then 1 else 0)
theorem cntN_le (f : Nat → Bool) : ∀ k, cntN f k ≤ k
  | 0 => Nat.le_refl _
  | k + 1 => by have := cntN_le f k; rw [cntN]; split <;> omega
theorem cntN_filter (f : Nat → Bool) : ∀ k, cntN f k = ((List.range k).filter f).length
  | 0 => rfl
  | k + 1 => by
    rw [cntN, List.range_succ, List.filter_append, List.length_append, cntN_filter f k]
    by_cases h : f k = true
    · simp [h]
    · simp [h]
theorem cntN_all (f : Nat → Bool) : ∀ k, (∀ i, i < k → f i = true) → cntN f k = k
  | 0, _ => rfl
  | k + 1, h => by rw [cntN, cntN_all f k (fun i hi => h i (by omega)), if_pos (h k (by omega))]
theorem cntN_congr (f g : Nat → Bool) : ∀ k, (∀ i, i < k → f i = g i) → cntN f k = cntN g k
  | 0, _ => rfl
  | k + 1, h => by rw [cntN, cntN, cntN_congr f g k (fun i hi => h i (by omega)), h k (by omega)]
theorem cntN_add (f : Nat → Bool) (a : Nat) : ∀ b, cntN f (a + b) = cntN f a + cntN (fun i => f (a + i)) b
  | 0 => rfl
  | b + 1 => by
    rw [← Nat.add_assoc, cntN, cntN_add f a b, cntN]
    omega

/-- Two polynomials of t elements that have the same value at t places are the same. -/
theorem same_of_count {q : Int} (hq : primeB q = true) {D E : List Int} (hD : elemB q D = true) (hE : elemB q E = true) (hl : D.length = E.length) {n : Nat} (hn : (n : Int) ≤ q)
    (hc : D.length ≤ cntN (fun (x : Nat) => decide (hv q (x : Int) D = hv q (x : Int) E)) n) : D = E := by
  have hb := prime_bd hq
  rw [cntN_filter] at hc
  have hel : ∀ {L : List Int}, elemB q L = true → ∀ c ∈ L, 0 ≤ c ∧ c < q := fun {L} h c hc => by
    have := List.all_eq_true.1 h c hc
    simpa using this
  refine PM.eq_of_values (primeB_pr hq) (((List.range n).filter fun (x : Nat) => decide (hv q (x : Int) D = hv q (x : Int) E)).map fun (x : Nat) => (x : Int)) D E (by simpa using hc) hl ?_ (hel hD) (hel hE) ?_
  · rw [List.pairwise_map]
    have h1 : ((List.range n).filter fun (x : Nat) => decide (hv q (x : Int) D = hv q (x : Int) E)).Pairwise (· < ·) := List.Pairwise.filter _ List.pairwise_lt_range
    refine (List.pairwise_iff_getElem.2 fun i j hi hj hij => ?_)
    have h2 := List.pairwise_iff_getElem.1 h1 i j hi hj hij
    have hmj := List.mem_filter.1 (List.getElem_mem hj)
    have hjn := List.mem_range.1 hmj.1
    rintro ⟨k, hk⟩
    generalize ((List.range n).filter fun (x : Nat) => decide (hv q (x : Int) D = hv q (x : Int) E))[i] = a at *
    generalize ((List.range n).filter fun (x : Nat) => decide (hv q (x : Int) D = hv q (x : Int) E))[j] = b at *
    have hk0 : k < 0 := by
      rcases Int.lt_or_le k 0 with h | h
      · exact h
      · have := Int.mul_nonneg (show 0 ≤ q by omega) h; omega
    have : q * k ≤ q * (-1) := Int.mul_le_mul_of_nonneg_left (by omega) (by omega)
    omega
  · intro x hx
    obtain ⟨y, hy, rfl⟩ := List.mem_map.1 hx
    have h1 := (List.mem_filter.1 hy).2
    have h2 : hv q y D = hv q y E := by simpa using h1
    obtain ⟨k1, e1⟩ := hv_near q y D
    obtain ⟨k2, e2⟩ := hv_near q y E
    rw [← pe_ev, ← pe_ev]
    exact ⟨k2 - k1, by grind⟩

/-! ### Digits -/
theorem digs_cons {q : Int} (hq : 0 ≤ q) (item : Int) (t : Nat) : digs q item (t + 1) = item % q :: digs q (item / q) t := by
  unfold digs
  rw [List.range_succ_eq_map]
  simp only [List.map_cons, List.map_map, Int.pow_zero, Int.ediv_one]
  congr 1
  refine List.map_congr_left fun i _ => ?_
  simp only [Function.comp]
  rw [Int.ediv_ediv_of_nonneg hq, Int.pow_succ, Int.mul_comm]
theorem digs_inj {q : Int} (hq : 2 ≤ q) : ∀ (t : Nat) (a b : Int), 0 ≤ a → a < q ^ t → 0 ≤ b → b < q ^ t → digs q a t = digs q b t → a = b
  | 0, a, b, h1, h2, h3, h4, _ => by simp at h2 h4; omega
  | t + 1, a, b, h1, h2, h3, h4, h => by
    rw [digs_cons (by omega), digs_cons (by omega)] at h
    simp only [List.cons.injEq] at h
    rw [Int.pow_succ] at h2 h4
    have := digs_inj hq t (a / q) (b / q) (Int.ediv_nonneg h1 (by omega)) (Int.ediv_lt_of_lt_mul (by omega) h2) (Int.ediv_nonneg h3 (by omega)) (Int.ediv_lt_of_lt_mul (by omega) h4) h.2
    have e1 := Int.emod_add_mul_ediv a q
    have e2 := Int.emod_add_mul_ediv b q
    rw [h.1, this] at e1
    omega
end Go.Proofs.Ytneliejncfncdaa
