/- Texts Ua Ub in one. -/
import Derived.Test.YtneliejncfncdaaPkPa
import Derived.Test.YtneliejncfncdaaPkTd
import Derived.Test.YtneliejncfncdaaPkQ
namespace PM

def padd : List Int → List Int → List Int
  | [], b => b
  | x :: a, [] => x :: a
  | x :: a, y :: b => (x + y) :: padd a b
theorem ev_padd (x : Int) : ∀ a b : List Int, ev (padd a b) x = ev a x + ev b x
  | [], b => by simp [padd, ev]
  | c :: a, [] => by simp [padd, ev]
  | c :: a, d :: b => by
    have := ev_padd x a b
    simp only [padd, ev, this]
    grind
theorem padd_length : ∀ a b : List Int, (padd a b).length = max a.length b.length
  | [], b => by simp [padd]
  | c :: a, [] => by simp [padd]
  | c :: a, d :: b => by
    have := padd_length a b
    simp only [padd, List.length_cons, this]
    omega
def psc (c : Int) (p : List Int) : List Int := p.map (c * ·)
theorem psc_length (c : Int) (p : List Int) : (psc c p).length = p.length := by simp [psc]
theorem ev_psc (c x : Int) : ∀ p : List Int, ev (psc c p) x = c * ev p x
  | [] => by simp [psc, ev]
  | d :: p => by
    have := ev_psc c x p
    simp only [psc, List.map_cons, ev] at this ⊢
    rw [this]
    grind
def pmul : List Int → List Int → List Int
  | [], _ => []
  | c :: cs, e => padd (psc c e) (0 :: pmul cs e)
theorem ev_pmul (x : Int) (b : List Int) : ∀ a : List Int, ev (pmul a b) x = ev a x * ev b x
  | [] => by simp [pmul, ev]
  | c :: cs => by
    have := ev_pmul x b cs
    simp only [pmul, ev_padd, ev_psc, ev, this]
    grind
theorem pmul_length {b : List Int} (hb : 1 ≤ b.length) : ∀ a : List Int, (pmul a b).length ≤ a.length + b.length - 1
  | [] => by simp [pmul]
  | c :: cs => by
    have := pmul_length hb cs
    simp only [pmul, padd_length, psc_length, List.length_cons]
    omega
theorem ev_append (x : Int) (r : List Int) : ∀ p : List Int, ev (p ++ r) x = ev p x + x ^ p.length * ev r x
  | [] => by simp [ev]
  | c :: p => by
    have := ev_append x r p
    simp only [List.cons_append, ev, this, List.length_cons, Int.pow_succ]
    grind
theorem ev_zeros (x : Int) : ∀ n, ev (List.replicate n 0) x = 0
  | 0 => rfl
  | n + 1 => by simp [List.replicate_succ, ev, ev_zeros x n]
def padTo (n : Nat) (p : List Int) : List Int := p ++ List.replicate (n - p.length) 0
theorem padTo_length {n : Nat} {p : List Int} (h : p.length ≤ n) : (padTo n p).length = n := by simp [padTo]; omega
theorem ev_padTo (x : Int) (n : Nat) (p : List Int) : ev (padTo n p) x = ev p x := by
  unfold padTo
  rw [ev_append, ev_zeros]
  simp
theorem ev_dvd {q : Int} (x : Int) : ∀ p : List Int, (∀ c ∈ p, q ∣ c) → q ∣ ev p x
  | [], _ => ⟨0, by simp [ev]⟩
  | c :: p, h => by
    obtain ⟨a, ha⟩ := h c (by simp)
    obtain ⟨b, hb⟩ := ev_dvd x p fun d hd => h d (by simp [hd])
    exact ⟨a + x * b, by rw [ev, ha, hb]; grind⟩

/-- Only 0 times a monic polynomial of degree t is a polynomial of a lesser degree. -/
theorem div_unique {q : Int} (hq : Pr q) (xs : List Int) (hx : xs.Pairwise (fun a b => ¬ q ∣ a - b)) (E rem : List Int) (t : Nat) (hE : E.length = t) (hr : rem.length ≤ t) :
    ∀ (n : Nat) (D : List Int), D.length = n → n + t ≤ xs.length → (∀ x ∈ xs, q ∣ ev D x * (ev E x + x ^ t) - ev rem x) → (∀ c ∈ D, q ∣ c) ∧ ∀ c ∈ rem, q ∣ c
  | 0, D, hD, hl, h => by
    have hD0 : D = [] := List.eq_nil_of_length_eq_zero hD
    subst hD0
    refine ⟨by simp, zero_of_roots hq xs rem (by omega) hx fun x hm => ?_⟩
    have := h x hm
    simp only [ev] at this
    obtain ⟨k, hk⟩ := this
    exact ⟨-k, by grind⟩
  | n + 1, D, hD, hl, h => by
    obtain ⟨D', c, rfl⟩ : ∃ D' c, D = D' ++ [c] := by
      rcases List.eq_nil_or_concat D with h0 | ⟨D', c, h0⟩
      · subst h0; simp at hD
      · exact ⟨D', c, by simpa using h0⟩
    have hD' : D'.length = n := by simpa using hD
    have hml : (pmul D' (E ++ [1])).length ≤ n + t := by
      have := pmul_length (b := E ++ [1]) (by simp) D'
      simp at this
      omega
    have hFl : (padd (padd (pmul D' (E ++ [1])) (psc c (List.replicate n 0 ++ E))) (psc (-1) rem)).length ≤ n + t := by
      simp only [padd_length, psc_length, List.length_append, List.length_replicate]
      omega
    have hFe : ∀ x, ev (padTo (n + t) (padd (padd (pmul D' (E ++ [1])) (psc c (List.replicate n 0 ++ E))) (psc (-1) rem)) ++ [c]) x = ev (D' ++ [c]) x * (ev E x + x ^ t) - ev rem x := by
      intro x
      simp only [ev_append, padTo_length hFl, ev_padTo, ev_padd, ev_psc, ev_pmul, ev_zeros, List.length_replicate, ev, hE, hD', Int.pow_add]
      grind
    have hall := zero_of_roots hq xs (padTo (n + t) (padd (padd (pmul D' (E ++ [1])) (psc c (List.replicate n 0 ++ E))) (psc (-1) rem)) ++ [c]) (by rw [List.length_append, padTo_length hFl]; simp; omega) hx fun x hm => by rw [hFe]; exact h x hm
    have hc := hall c (by simp)
    have ih := div_unique hq xs hx E rem t hE hr n D' hD' (by omega) fun x hm => by
      obtain ⟨a, ha⟩ := h x hm
      obtain ⟨b, hb⟩ := hc
      rw [ev_append] at ha
      simp only [ev] at ha
      subst hb
      exact ⟨a - x ^ D'.length * b * (ev E x + x ^ t), by grind⟩
    exact ⟨fun d hd => by
      rcases List.mem_append.1 hd with hd | hd
      · exact ih.1 d hd
      · simp at hd; subst hd; exact hc, ih.2⟩

/-- The monic polynomial with given roots, less its first power. -/
def locE : List Int → List Int
  | [] => []
  | a :: ws => padd (0 :: locE ws) (psc (-a) (locE ws ++ [1]))
theorem locE_length : ∀ W : List Int, (locE W).length = W.length
  | [] => rfl
  | a :: ws => by
    have := locE_length ws
    simp [locE, padd_length, psc_length, this]
theorem locE_cons (x a : Int) (ws : List Int) : ev (locE (a :: ws)) x + x ^ (a :: ws).length = (x - a) * (ev (locE ws) x + x ^ ws.length) := by
  have := locE_length ws
  simp only [locE, ev_padd, ev_psc, ev_append, ev, List.length_cons, Int.pow_succ, this]
  grind
theorem loc_root (a : Int) : ∀ W : List Int, a ∈ W → ev (locE W) a + a ^ W.length = 0
  | [], h => by simp at h
  | b :: ws, h => by
    rw [locE_cons]
    rcases List.mem_cons.1 h with h | h
    · subst h; simp
    · rw [loc_root a ws h]; simp
end PM

namespace Go.Proofs.Ytneliejncfncdaa

theorem dot_add (r : List Int) (f : Nat → Int) (a : Nat) : ∀ b, dot r f (a + b) = dot r f a + dot (r.drop a) (fun j => f (a + j)) b
  | 0 => by simp [dot]
  | b + 1 => by
    have := dot_add r f a b
    rw [← Nat.add_assoc, dot, dot, this]
    simp only [List.getD, List.getElem?_drop]
    omega
theorem dot_congr (f : Nat → Int) (r s : List Int) : ∀ k, (∀ j, j < k → r.getD j 0 = s.getD j 0) → dot r f k = dot s f k
  | 0, _ => rfl
  | k + 1, h => by rw [dot, dot, dot_congr f r s k (fun j hj => h j (by omega)), h k (by omega)]
theorem pwl_get (q x : Int) {n j : Nat} (h : j < n) : (pwl q x n).getD j 0 = pw q x j := by simp [pwl, List.getD, h]
theorem negs_get (q x y : Int) {n j : Nat} (h : j < n) : (negs q x y n).getD j 0 = (0 - y * pw q x j % q) % q := by simp [negs, List.getD, h]
theorem dot_pwl (q x : Int) (n : Nat) (p : List Int) (hp : p.length = n) : ∀ k, k ≤ n → ∃ z, dot (pwl q x n) (fun j => p.getD j 0) k = pe x (p.take k) + q * z
  | 0, _ => ⟨0, by simp [dot, pe]⟩
  | k + 1, h => by
    obtain ⟨z, hz⟩ := dot_pwl q x n p hp k (by omega)
    obtain ⟨y1, h1⟩ := pw_near q x k
    rw [dot, hz, pwl_get q x (show k < n by omega), pe_take_succ x p (by omega), h1]
    exact ⟨z + y1 * p.getD k 0, by grind⟩
theorem dot_negs (q x y : Int) (n : Nat) (p : List Int) (hp : p.length = n) : ∀ k, k ≤ n → ∃ z, dot (negs q x y n) (fun j => p.getD j 0) k = q * z - y * pe x (p.take k)
  | 0, _ => ⟨0, by simp [dot, pe]⟩
  | k + 1, h => by
    obtain ⟨z, hz⟩ := dot_negs q x y n p hp k (by omega)
    obtain ⟨y1, h1⟩ := pw_near q x k
    obtain ⟨a, ha⟩ := emod_near q (y * pw q x k)
    obtain ⟨b, hb⟩ := emod_near q (0 - y * pw q x k % q)
    rw [dot, hz, negs_get q x y (show k < n by omega), pe_take_succ x p (by omega), hb, ha, h1]
    exact ⟨z + (b - a - y * y1) * p.getD k 0, by grind⟩
theorem hi_near (q x y : Int) : ∀ n, ∃ z, hi q x y n = y * x ^ n + q * z
  | 0 => ⟨0, by simp [hi]⟩
  | n + 1 => by
    obtain ⟨z, hz⟩ := hi_near q x y n
    obtain ⟨b, hb⟩ := emod_near q (hi q x y n * x)
    rw [hi, hb, hz, Int.pow_succ]
    exact ⟨z * x + b, by grind⟩

/-- What a row of the equations says. -/
theorem bw_sat (q x y : Int) (k t : Nat) (l : List Int) (hl : l.length = 2 * t + k) :
    SatR q (2 * t + k) (bwRow q k t x y) (fun j => l.getD j 0) ↔ q ∣ pe x (l.take (t + k)) - y * (pe x (l.drop (t + k)) + x ^ t) := by
  have e1 : dot (bwRow q k t x y) (fun j => l.getD j 0) (t + k) = dot (pwl q x (t + k)) (fun j => (l.take (t + k)).getD j 0) (t + k) := by
    have : dot (pwl q x (t + k)) (fun j => (l.take (t + k)).getD j 0) (t + k) = dot (pwl q x (t + k)) (fun j => l.getD j 0) (t + k) := by
      have : ∀ m, m ≤ t + k → dot (pwl q x (t + k)) (fun j => (l.take (t + k)).getD j 0) m = dot (pwl q x (t + k)) (fun j => l.getD j 0) m := by
        intro m
        induction m with
        | zero => intro _; rfl
        | succ m ih =>
          intro h
          rw [dot, dot, ih (by omega)]
          simp only [List.getD, List.getElem?_take]
          rw [if_pos (by omega)]
      exact this _ (Nat.le_refl _)
    rw [this]
    refine dot_congr _ _ _ _ fun j hj => ?_
    simp only [bwRow, List.getD, List.append_assoc]
    rw [List.getElem?_append_left (by rw [pwl_length]; omega)]
  have e2 : dot ((bwRow q k t x y).drop (t + k)) (fun j => l.getD (t + k + j) 0) t = dot (negs q x y t) (fun j => (l.drop (t + k)).getD j 0) t := by
    have e : (fun j => (l.drop (t + k)).getD j 0) = fun j => l.getD (t + k + j) 0 := by
      funext j
      simp only [List.getD, List.getElem?_drop]
    rw [e]
    refine dot_congr _ _ _ _ fun j hj => ?_
    have : (bwRow q k t x y).drop (t + k) = negs q x y t ++ [hi q x y t] := by
      rw [bwRow, List.append_assoc, List.drop_append_of_le_length (by rw [pwl_length]; omega), List.drop_eq_nil_of_le (by rw [pwl_length]; omega), List.nil_append]
    rw [this]
    simp only [List.getD]
    rw [List.getElem?_append_left (by rw [negs_length]; omega)]
  have e3 : (bwRow q k t x y).getD (2 * t + k) 0 = hi q x y t := by
    simp only [bwRow, List.getD]
    rw [List.getElem?_append_right (by simp [pwl_length, negs_length]; omega)]
    simp [pwl_length, negs_length, show 2 * t + k - (t + k + t) = 0 by omega]
  obtain ⟨z1, h1⟩ := dot_pwl q x (t + k) (l.take (t + k)) (by simp; omega) (t + k) (Nat.le_refl _)
  obtain ⟨z2, h2⟩ := dot_negs q x y t (l.drop (t + k)) (by simp; omega) t (Nat.le_refl _)
  obtain ⟨z3, h3⟩ := hi_near q x y t
  rw [List.take_take, Nat.min_self] at h1
  rw [List.take_of_length_le (by simp; omega)] at h2
  unfold SatR
  have e4 : dot (bwRow q k t x y) (fun j => l.getD j 0) (2 * t + k) = dot (bwRow q k t x y) (fun j => l.getD j 0) ((t + k) + t) := by rw [show 2 * t + k = (t + k) + t by omega]
  rw [e4, dot_add, e1, e2, e3, h1, h2, h3]
  constructor
  · rintro ⟨a, ha⟩; exact ⟨a - z1 - z2 + z3, by grind⟩
  · rintro ⟨a, ha⟩; exact ⟨a + z1 + z2 - z3, by grind⟩
theorem bw_sats (q : Int) (word : List Int) (k t n : Nat) (l : List Int) (hl : l.length = 2 * t + k) :
    Sat q (2 * t + k) (bwRows q word k t n) (fun j => l.getD j 0) ↔ ∀ i, i < n → q ∣ pe i (l.take (t + k)) - word.getD i 0 * (pe i (l.drop (t + k)) + (i : Int) ^ t) := by
  unfold Sat
  rw [bwRows_length]
  constructor <;> intro h i hi <;> have := h i hi
  · rw [show (bwRows q word k t n).getD i [] = bwRow q k t i (word.getD i 0) by simp [bwRows, List.getD, hi], bw_sat _ _ _ _ _ _ hl] at this
    exact this
  · rw [show (bwRows q word k t n).getD i [] = bwRow q k t i (word.getD i 0) by simp [bwRows, List.getD, hi], bw_sat _ _ _ _ _ _ hl]
    exact this

/-- The places where a polynomial's value is another, and the others. -/
def wrongL (q : Int) (p word : List Int) : Nat → List Int
  | 0 => []
  | m + 1 => if hv q m p = word.getD m 0 then wrongL q p word m else (m : Int) :: wrongL q p word m
def rightL (q : Int) (p word : List Int) : Nat → List Int
  | 0 => []
  | m + 1 => if hv q m p = word.getD m 0 then (m : Int) :: rightL q p word m else rightL q p word m
theorem wrongL_length (q : Int) (p word : List Int) : ∀ m, (wrongL q p word m).length = wrongs q p word m
  | 0 => rfl
  | m + 1 => by
    have := wrongL_length q p word m
    rw [wrongL, wrongs]
    split <;> simp [this]
theorem rightL_length (q : Int) (p word : List Int) : ∀ m, (rightL q p word m).length + wrongs q p word m = m
  | 0 => rfl
  | m + 1 => by
    have := rightL_length q p word m
    rw [rightL, wrongs]
    split
    · simp; omega
    · omega
theorem wrongL_mem (q : Int) (p word : List Int) {i : Nat} : ∀ m, i < m → hv q i p ≠ word.getD i 0 → (i : Int) ∈ wrongL q p word m
  | 0, h, _ => by omega
  | m + 1, h, hne => by
    rw [wrongL]
    by_cases e : i = m
    · subst e; rw [if_neg hne]; simp
    · have := wrongL_mem q p word m (by omega) hne
      split
      · exact this
      · simp [this]
theorem rightL_mem (q : Int) (p word : List Int) : ∀ m, ∀ x ∈ rightL q p word m, ∃ i : Nat, i < m ∧ x = i ∧ hv q i p = word.getD i 0
  | 0, x, h => by simp [rightL] at h
  | m + 1, x, h => by
    rw [rightL] at h
    split at h
    · rename_i he
      rcases List.mem_cons.1 h with h | h
      · exact ⟨m, by omega, h, he⟩
      · obtain ⟨i, h1, h2, h3⟩ := rightL_mem q p word m x h
        exact ⟨i, by omega, h2, h3⟩
    · obtain ⟨i, h1, h2, h3⟩ := rightL_mem q p word m x h
      exact ⟨i, by omega, h2, h3⟩
theorem small_not_dvd {q a : Int} (h : 0 < a) (h2 : a < q) : ¬ q ∣ a := fun hd => by
  have := Int.le_of_dvd h hd
  omega
theorem rightL_pair (q : Int) (p word : List Int) : ∀ m : Nat, (m : Int) ≤ q → (rightL q p word m).Pairwise (fun a b => ¬ q ∣ a - b)
  | 0, _ => by simp [rightL]
  | m + 1, h => by
    rw [rightL]
    have ih := rightL_pair q p word m (by omega)
    split
    · rw [List.pairwise_cons]
      refine ⟨fun x hx => ?_, ih⟩
      obtain ⟨i, h1, rfl, _⟩ := rightL_mem q p word m x hx
      exact small_not_dvd (by omega) (by omega)
    · exact ih

/-- There is a solution, if a message is near enough. -/
theorem bw_exists (q : Int) (word m : List Int) (k t n : Nat) (hm : m.length = k) (hw : wrongs q m word n ≤ t) : ∃ l : List Int, l.length = 2 * t + k ∧
    Sat q (2 * t + k) (bwRows q word k t n) (fun j => l.getD j 0) := by
  have hWl : (wrongL q m word n ++ List.replicate (t - wrongs q m word n) 0).length = t := by simp [wrongL_length]; omega
  have hroot : ∀ i : Nat, i < n → hv q i m ≠ word.getD i 0 → PM.ev (PM.locE (wrongL q m word n ++ List.replicate (t - wrongs q m word n) 0)) i + (i : Int) ^ t = 0 := by
    intro i hi hne
    have := PM.loc_root i (wrongL q m word n ++ List.replicate (t - wrongs q m word n) 0) (List.mem_append_left _ (wrongL_mem q m word n hi hne))
    rwa [hWl] at this
  generalize wrongL q m word n ++ List.replicate (t - wrongs q m word n) 0 = W at *
  have hEl := PM.locE_length W
  rw [hWl] at hEl
  generalize PM.locE W = E at *
  have hml : (PM.pmul m (E ++ [1])).length ≤ t + k := by
    have := PM.pmul_length (b := E ++ [1]) (by simp) m
    simp at this
    omega
  have hpl := PM.padTo_length hml
  refine ⟨PM.padTo (t + k) (PM.pmul m (E ++ [1])) ++ E, by simp [hpl, hEl]; omega, ?_⟩
  rw [bw_sats _ _ _ _ _ _ (by simp [hpl, hEl]; omega)]
  intro i hi
  rw [List.take_append_of_le_length (by omega), List.take_of_length_le (by omega), List.drop_append_of_le_length (by omega), List.drop_eq_nil_of_le (by omega), List.nil_append,
    pe_ev, pe_ev, PM.ev_padTo, PM.ev_pmul, PM.ev_append]
  simp only [PM.ev, hEl, Int.mul_zero, Int.add_zero, Int.mul_one]
  by_cases he : hv q i m = word.getD i 0
  · obtain ⟨z, hz⟩ := hv_near q i m
    rw [← he, hz, pe_ev]
    exact ⟨-z * (PM.ev E i + (i : Int) ^ t), by grind⟩
  · rw [hroot i hi he]
    simp
theorem take_drop_facts (q : Int) (word : List Int) (k t : Nat) : (bwL q word k t).length = 2 * t + k := outOf_length _ _
theorem bw_ok {q : Int} (hq : primeB q = true) (word m : List Int) (hwe : elemB q word = true) (k t : Nat) (hm : m.length = k) (hw : wrongs q m word word.length ≤ t) :
    bwOk q word k t = true ∧ ∀ i, i < word.length → q ∣ pe i (bwQ q word k t) - word.getD i 0 * (pe i ((bwL q word k t).drop (t + k)) + (i : Int) ^ t) := by
  have hb := prime_bd hq
  have hg := bwRows_good hb.1 word hwe k t word.length
  have hsr := solve_right hq hg
  obtain ⟨l, hl, hs⟩ := bw_exists q word m k t word.length hm hw
  have hok : bwOk q word k t = true := by
    cases h : bwOk q word k t with
    | true => rfl
    | false => exact absurd hs (hsr.2 h _)
  refine ⟨hok, ?_⟩
  have := hsr.1 hok
  exact (bw_sats q word k t word.length (bwL q word k t) (outOf_length _ _)).1 this

theorem pe_subAt (q c x : Int) (d : List Int) (i : Nat) (p : List Int) (h : i + d.length ≤ p.length) : ∀ n, n ≤ d.length → ∃ z, pe x (subAt q c d i n p) = pe x p - c * x ^ i * pe x (d.take n) + q * z
  | 0, _ => ⟨0, by simp [subAt_zero, pe]⟩
  | n + 1, hn => by
    obtain ⟨z, hz⟩ := pe_subAt q c x d i p h n (by omega)
    have hl := subAt_length q c d i n p
    have hat := subAt_at q c d i n p (by omega)
    have hg : (subAt q c d i n p).getD (i + n) 0 = p.getD (i + n) 0 := by
      rw [← hat]
      simp [List.getD, show i + n < (subAt q c d i n p).length by omega]
    obtain ⟨b, hb⟩ := emod_near q (p.getD (i + n) 0 - c * d.getD n 0)
    rw [← subAt_succ, pe_setN _ _ _ _ (by omega), hz, hg, hb, pe_take_succ x d (by omega), Int.pow_add]
    exact ⟨z + b * (x ^ i * x ^ n), by grind⟩
theorem fillFrom_get (f : Nat → Int) {n j : Nat} (hj : j < n) : (fillFrom f n (j + 1)).getD j 0 = 0 := by
  simp [fillFrom, List.getD, hj]
  omega
theorem pe_fillFrom (f : Nat → Int) (x : Int) {n j : Nat} (hj : j < n) : pe x (fillFrom f n j) = pe x (fillFrom f n (j + 1)) + f j * x ^ j := by
  rw [← fillFrom_set, pe_setN _ _ _ _ (by rw [fillFrom_length]; exact hj), fillFrom_get f hj]
  grind
/-- The division: what it keeps, and which elements are gone. -/
theorem div_keeps (q x : Int) (d p : List Int) (L : Nat) (hl : p.length + 1 = d.length + L) (hd : 1 ≤ d.length) : ∀ n, n ≤ L →
    ∃ z, pe x p = pe x (remN q d p L n) + pe x d * pe x (fillFrom (quoF q d p L) L (L - n)) + q * z
  | 0, _ => ⟨0, by rw [Nat.sub_zero, fillFrom_top, pe_zeros]; simp [remN]⟩
  | n + 1, hn => by
    obtain ⟨z, hz⟩ := div_keeps q x d p L hl hd n (by omega)
    have hrl := remN_length q d p L n
    obtain ⟨y, hy⟩ := pe_subAt q ((remN q d p L n).getD (L - 1 - n + d.length - 1) 0) x d (L - 1 - n) (remN q d p L n) (by omega) d.length (Nat.le_refl _)
    rw [List.take_length] at hy
    have hf := pe_fillFrom (quoF q d p L) x (n := L) (j := L - 1 - n) (by omega)
    rw [show L - 1 - n + 1 = L - n by omega] at hf
    have hqf : quoF q d p L (L - 1 - n) = (remN q d p L n).getD (L - 1 - n + d.length - 1) 0 := by
      unfold quoF
      rw [show L - 1 - (L - 1 - n) = n by omega]
    rw [show L - (n + 1) = L - 1 - n by omega, hf, remN, hy, hz, hqf]
    exact ⟨z - y, by grind⟩
theorem div_top {q : Int} (hq : 2 ≤ q) (d' p : List Int) (L : Nat) (hl : p.length = d'.length + L) (hp : elemB q p = true) : ∀ n, n ≤ L → ∀ j, d'.length + L - n ≤ j → (remN q (d' ++ [1]) p L n).getD j 0 = 0
  | 0, _, j, hj => by
    simp only [remN, List.getD]
    rw [List.getElem?_eq_none (by omega)]
    rfl
  | n + 1, hn, j, hj => by
    have ih := div_top hq d' p L hl hp n (by omega)
    have hrl := remN_length q (d' ++ [1]) p L n
    have hsl := subAt_length q ((remN q (d' ++ [1]) p L n).getD (L - 1 - n + (d' ++ [1]).length - 1) 0) (d' ++ [1]) (L - 1 - n) (d' ++ [1]).length (remN q (d' ++ [1]) p L n)
    rw [remN]
    by_cases hjl : j < p.length
    · have e : (subAt q ((remN q (d' ++ [1]) p L n).getD (L - 1 - n + (d' ++ [1]).length - 1) 0) (d' ++ [1]) (L - 1 - n) (d' ++ [1]).length (remN q (d' ++ [1]) p L n)).getD j 0 =
          if L - 1 - n ≤ j ∧ j < L - 1 - n + (d' ++ [1]).length then ((remN q (d' ++ [1]) p L n).getD j 0 - (remN q (d' ++ [1]) p L n).getD (L - 1 - n + (d' ++ [1]).length - 1) 0 * (d' ++ [1]).getD (j - (L - 1 - n)) 0) % q else (remN q (d' ++ [1]) p L n).getD j 0 := by
        simp [subAt, List.getD, show j < (remN q (d' ++ [1]) p L n).length by omega]
      rw [e]
      simp only [List.length_append, List.length_singleton] at *
      by_cases ej : j = d'.length + L - (n + 1)
      · rw [if_pos (by omega)]
        have e1 : j - (L - 1 - n) = d'.length := by omega
        have e2 : L - 1 - n + (d'.length + 1) - 1 = j := by omega
        rw [e1, e2]
        simp [List.getD]
      · rw [if_neg (by omega)]
        exact ih j (by omega)
    · rw [List.getD_eq_getElem?_getD, List.getElem?_eq_none (by rw [hsl, hrl]; omega)]
      rfl
/-- A list whose elements are 0 from t on. -/
theorem pe_cut (x : Int) (t : Nat) (r : List Int) (h : ∀ j, t ≤ j → r.getD j 0 = 0) : pe x r = pe x (r.take t) := by
  rcases Nat.lt_or_ge t r.length with hl | hl
  · have : ∀ n, t ≤ n → n ≤ r.length → pe x (r.take n) = pe x (r.take t) := by
      intro n
      induction n with
      | zero => intro h0 _; rw [show t = 0 by omega]
      | succ n ih =>
        intro h1 h2
        by_cases e : t = n + 1
        · rw [e]
        · rw [pe_take_succ x r (by omega), ih (by omega) (by omega), h n (by omega)]
          simp
    have := this r.length (by omega) (Nat.le_refl _)
    rwa [List.take_length] at this
  · rw [List.take_of_length_le hl]

theorem elem_zero {q c : Int} (h : 0 ≤ c ∧ c < q) (hd : q ∣ c) : c = 0 := by
  rcases Int.lt_or_le 0 c with h0 | h0
  · have := Int.le_of_dvd h0 hd; omega
  · omega

theorem mend_right {q : Int} (hq : primeB q = true) (word m : List Int) (hwe : elemB q word = true) (hme : elemB q m = true) (k t : Nat) (hm : m.length = k) (hk : 1 ≤ k) (hn : 2 * t + k ≤ word.length) (hnq : (word.length : Int) ≤ q)
    (hw : wrongs q m word word.length ≤ t) : mendOk q word k t = true ∧ mendP q word k t = m := by
  have hb := prime_bd hq
  obtain ⟨hok, hs⟩ := bw_ok hq word m hwe k t hm hw
  have hLe : elemB q (bwL q word k t) = true := bwL_elem hb.1 word hwe k t
  have hLl : (bwL q word k t).length = 2 * t + k := outOf_length _ _
  have hQl : (bwQ q word k t).length = t + k := by simp [bwQ, hLl]; omega
  have hQe : elemB q (bwQ q word k t) = true := elemB_take hLe _
  have hdl : ((bwL q word k t).drop (t + k)).length = t := by simp [hLl]; omega
  unfold mendOk mendP
  rw [hok]
  unfold bwE
  generalize (bwL q word k t).drop (t + k) = E at *
  generalize bwQ q word k t = Q at *
  have hre := remN_elem (q := q) (by omega) (E ++ [1]) hQe k k
  have hrl := remN_length q (E ++ [1]) Q k k
  have htop := div_top hb.1 E Q k (by omega) hQe k (Nat.le_refl _)
  have hkeep := fun x => div_keeps q x (E ++ [1]) Q k (by simp; omega) (by simp) k (Nat.le_refl _)
  simp only [Nat.sub_self, fillFrom_zero] at hkeep
  have hQQ : elemB q ((List.range k).map (quoF q (E ++ [1]) Q k)) = true := by
    refine elemB_of _ _ fun j hj => ?_
    simp only [List.getElem_map]
    exact quoF_bd (by omega) _ hQe _ _
  generalize hX : (List.range k).map (quoF q (E ++ [1]) Q k) = X at *
  have hXl : X.length = k := by rw [← hX]; simp
  clear hX
  generalize remN q (E ++ [1]) Q k k = R at *
  have hRcut := fun x => pe_cut x t R (fun j hj => htop j (by omega))
  have hpr := primeB_pr hq
  have hpair := rightL_pair q m word word.length hnq
  have hrlen := rightL_length q m word word.length
  have hD : ∀ x, PM.ev (PM.padd m (PM.psc (-1) X)) x = pe x m - pe x X := by
    intro x
    rw [PM.ev_padd, PM.ev_psc, pe_ev, pe_ev]
    omega
  have hdv := PM.div_unique hpr (rightL q m word word.length) hpair E (R.take t) t hdl (by simp; omega) k (PM.padd m (PM.psc (-1) X)) (by rw [PM.padd_length, PM.psc_length]; omega) (by omega) fun x hx => by
    obtain ⟨i, hi, rfl, he⟩ := rightL_mem q m word word.length x hx
    obtain ⟨a, ha⟩ := hs i hi
    obtain ⟨b, hb⟩ := hkeep i
    obtain ⟨z, hz⟩ := hv_near q i m
    rw [hD, ← pe_ev, ← pe_ev, ← hRcut]
    rw [← he, hz] at ha
    rw [pe_append, hdl] at hb
    generalize pe (i : Int) Q = A at *
    generalize pe (i : Int) E = B at *
    generalize pe (i : Int) X = C at *
    generalize pe (i : Int) m = D at *
    generalize pe (i : Int) R = F at *
    generalize ((i : Int) ^ t) = G at *
    exact ⟨b - a - z * (B + G), by grind⟩
  have hXm : X = m := by
    refine (PM.eq_of_values hpr (rightL q m word word.length) m X (by omega) (by omega) hpair (elemB_mem hme) (elemB_mem hQQ) fun x hx => ?_).symm
    have := PM.ev_dvd x _ hdv.1
    rw [hD] at this
    rwa [← pe_ev, ← pe_ev]
  refine ⟨?_, hXm⟩
  simp only [Bool.true_and, Bool.not_eq_true', List.any_eq_false, bne_iff_ne, ne_eq, Decidable.not_not]
  intro c hc
  obtain ⟨j, hj, rfl⟩ := List.mem_iff_getElem.1 hc
  by_cases hjt : j < t
  · have h1 : q ∣ R[j] := hdv.2 _ (List.mem_iff_getElem.2 ⟨j, by simp; omega, by simp⟩)
    exact elem_zero (elem_get hre hj) h1
  · have := htop j (by omega)
    simpa [List.getD, hj] using this

/-- Read of a word that is near enough to a message. -/
theorem readR_near {q : Int} (hq : primeB q = true) (word m : List Int) (hwe : elemB q word = true) (hme : elemB q m = true) (k : Nat) (hm : m.length = k) (hk : 1 ≤ k) (hn : k ≤ word.length) (hnq : (word.length : Int) ≤ q)
    (hw : wrongs q m word word.length ≤ (word.length - k) / 2) : readR q k word = (m, ((wrongs q m word word.length : Nat) : Int), 0) := by
  obtain ⟨h1, h2⟩ := mend_right hq word m hwe hme k ((word.length - k) / 2) hm hk (by omega) hnq hw
  unfold readR
  simp only [hq, hwe, Int.toNat_natCast, h1, h2, Bool.true_and]
  rw [if_pos (by simp; omega), if_pos (by simpa using hw)]
/-- .. if none is. -/
theorem readR_far {q : Int} (hq : primeB q = true) (word : List Int) (hwe : elemB q word = true) (k : Nat) (hk : 1 ≤ k) (hn : k ≤ word.length) (hnq : (word.length : Int) ≤ q)
    (hw : ∀ m : List Int, elemB q m = true → m.length = k → ¬ wrongs q m word word.length ≤ (word.length - k) / 2) : readR q k word = ([], 0, 6) := by
  have := hw (mendP q word k ((word.length - k) / 2)) (mendP_elem (prime_bd hq).1 word hwe k _) (mendP_length _ _ _ _)
  unfold readR
  simp only [hq, hwe, Int.toNat_natCast, Bool.true_and]
  rw [if_pos (by simp; omega), if_neg (by simp; intro _; omega)]
end Go.Proofs.Ytneliejncfncdaa
