/- Texts Td Te in one. -/
import Derived.Test.YtneliejncfncdaaPkTa
import Derived.Test.YtneliejncfncdaaPkSa
namespace Go.Proofs.Ytneliejncfncdaa

theorem pe_setN (x v : Int) : ∀ (l : List Int) (j : Nat), j < l.length → pe x (l.set j v) = pe x l + (v - l.getD j 0) * x ^ j
  | [], _, h => by simp at h
  | c :: cs, 0, _ => by simp [pe]; grind
  | c :: cs, j + 1, h => by
    have := pe_setN x v cs j (by simpa using h)
    simp only [List.set, pe, this, List.getD_cons_succ, Int.pow_succ]
    grind
theorem pe_zeros (x : Int) : ∀ n, pe x (List.replicate n 0) = 0
  | 0 => rfl
  | n + 1 => by simp [List.replicate_succ, pe, pe_zeros x n]
theorem pe_take_succ (x : Int) (l : List Int) {j : Nat} (h : j < l.length) : pe x (l.take (j + 1)) = pe x (l.take j) + l.getD j 0 * x ^ j := by
  rw [List.take_succ_eq_append_getElem h, pe_append, List.length_take, Nat.min_eq_left (by omega)]
  simp [List.getD, h]
theorem elemB_setN {q : Int} {l : List Int} (h : elemB q l = true) (j : Nat) {v : Int} (hv : 0 ≤ v ∧ v < q) : elemB q (l.set j v) = true := by
  refine (elemB_iff' _ _).2 fun i x hx => ?_
  rw [List.getElem?_set] at hx
  split at hx
  · split at hx
    · cases hx; exact hv
    · cases hx
  · exact (elemB_iff' q l).1 h i x hx
theorem elemB_zeros {q : Int} (hq : 1 ≤ q) (n : Nat) : elemB q (List.replicate n 0) = true := by
  refine (elemB_iff' _ _).2 fun i x hx => ?_
  rw [List.getElem?_replicate] at hx
  split at hx
  · cases hx; omega
  · cases hx

/-- A polynomial times x + c, after j places. -/
def mulN (q c : Int) (one : List Int) : Nat → List Int
  | 0 => List.replicate (one.length + 1) 0
  | j + 1 => ((mulN q c one j).set j (((mulN q c one j).getD j 0 + one.getD j 0 * c) % q)).set (j + 1) (((mulN q c one j).getD (j + 1) 0 + one.getD j 0) % q)
theorem mulN_length (q c : Int) (one : List Int) : ∀ j, (mulN q c one j).length = one.length + 1
  | 0 => by simp [mulN]
  | j + 1 => by simp [mulN, mulN_length q c one j]
theorem mod_bd {q : Int} (hq : 1 ≤ q) (a : Int) : 0 ≤ a % q ∧ a % q < q := ⟨Int.emod_nonneg _ (by omega), Int.emod_lt_of_pos _ (by omega)⟩
theorem mulN_elem {q : Int} (hq : 1 ≤ q) (c : Int) (one : List Int) : ∀ j, elemB q (mulN q c one j) = true
  | 0 => elemB_zeros hq _
  | j + 1 => by
    rw [mulN]
    exact elemB_setN (elemB_setN (mulN_elem hq c one j) _ (mod_bd hq _)) _ (mod_bd hq _)
theorem pe_mulN (q c x : Int) (one : List Int) : ∀ j, j ≤ one.length → ∃ z, pe x (mulN q c one j) = (x + c) * pe x (one.take j) + q * z
  | 0, _ => ⟨0, by simp [mulN, pe_zeros, pe]⟩
  | j + 1, h => by
    obtain ⟨z, hz⟩ := pe_mulN q c x one j (by omega)
    have hl := mulN_length q c one j
    rw [mulN, pe_setN _ _ _ _ (by simp [hl]; omega), pe_setN _ _ _ _ (by omega), pe_take_succ x one (by omega), hz]
    obtain ⟨k1, h1⟩ := emod_near q ((mulN q c one j).getD j 0 + one.getD j 0 * c)
    obtain ⟨k2, h2⟩ := emod_near q ((mulN q c one j).getD (j + 1) 0 + one.getD j 0)
    have hg : ((mulN q c one j).set j (((mulN q c one j).getD j 0 + one.getD j 0 * c) % q)).getD (j + 1) 0 = (mulN q c one j).getD (j + 1) 0 := by
      simp [List.getD, List.getElem?_set, show ¬ j = j + 1 by omega]
    rw [hg, h1, h2, Int.pow_succ]
    exact ⟨z + k1 * x ^ j + k2 * (x ^ j * x), by grind⟩

/-- The polynomial with the roots at all places but i, after k of them. -/
def lagO (q : Int) (xs : List Int) (i : Nat) : Nat → List Int
  | 0 => [1]
  | k + 1 => if k = i then lagO q xs i k else mulN q (q - xs.getD k 0) (lagO q xs i k) (lagO q xs i k).length
def lagS (q : Int) (xs : List Int) (i : Nat) : Nat → Int
  | 0 => 1
  | k + 1 => if k = i then lagS q xs i k else lagS q xs i k * ((xs.getD i 0 - xs.getD k 0 + q) % q) % q
theorem lagO_length (q : Int) (xs : List Int) (i : Nat) : ∀ k, (lagO q xs i k).length = if i < k then k else k + 1
  | 0 => by simp [lagO]
  | k + 1 => by
    have := lagO_length q xs i k
    rw [lagO]
    by_cases e : k = i
    · rw [if_pos e, this]
      split <;> split <;> omega
    · rw [if_neg e, mulN_length, this]
      split <;> split <;> omega
theorem lagO_elem {q : Int} (hq : 2 ≤ q) (xs : List Int) (i : Nat) : ∀ k, elemB q (lagO q xs i k) = true
  | 0 => by simp [lagO, elemB]; omega
  | k + 1 => by
    rw [lagO]
    split
    · exact lagO_elem hq xs i k
    · exact mulN_elem (by omega) _ _ _
theorem lagS_bd {q : Int} (hq : 2 ≤ q) (xs : List Int) (i : Nat) : ∀ k, 0 ≤ lagS q xs i k ∧ lagS q xs i k < q
  | 0 => by simp [lagS]; omega
  | k + 1 => by
    rw [lagS]
    split
    · exact lagS_bd hq xs i k
    · exact mod_bd (by omega) _
theorem lagO_step (q : Int) (xs : List Int) (i x : Int) (k : Nat) (l : List Int) : ∃ z, pe x (mulN q (q - xs.getD k 0) l l.length) = (x - xs.getD k 0) * pe x l + q * z := by
  obtain ⟨z, hz⟩ := pe_mulN q (q - xs.getD k 0) x l l.length (Nat.le_refl _)
  rw [List.take_length] at hz
  exact ⟨z + pe x l, by rw [hz]; grind⟩
theorem lagO_root (q : Int) (xs : List Int) (i : Nat) : ∀ k j, j < k → j ≠ i → q ∣ pe (xs.getD j 0) (lagO q xs i k)
  | 0, j, h, _ => by omega
  | k + 1, j, h, hne => by
    rw [lagO]
    by_cases e : k = i
    · rw [if_pos e]
      exact lagO_root q xs i k j (by omega) hne
    · rw [if_neg e]
      obtain ⟨z, hz⟩ := lagO_step q xs 0 (xs.getD j 0) k (lagO q xs i k)
      rw [hz]
      by_cases ej : j = k
      · subst ej
        exact ⟨z, by grind⟩
      · obtain ⟨y, hy⟩ := lagO_root q xs i k j (by omega) hne
        rw [hy]
        exact ⟨(xs.getD j 0 - xs.getD k 0) * y + z, by grind⟩
theorem lagO_scale (q : Int) (xs : List Int) (i : Nat) : ∀ k, ∃ z, pe (xs.getD i 0) (lagO q xs i k) = lagS q xs i k + q * z
  | 0 => ⟨0, by simp [lagO, lagS, pe]⟩
  | k + 1 => by
    obtain ⟨z, hz⟩ := lagO_scale q xs i k
    rw [lagO, lagS]
    by_cases e : k = i
    · rw [if_pos e, if_pos e]
      exact ⟨z, hz⟩
    · rw [if_neg e, if_neg e]
      obtain ⟨y, hy⟩ := lagO_step q xs 0 (xs.getD i 0) k (lagO q xs i k)
      obtain ⟨k1, h1⟩ := emod_near q (xs.getD i 0 - xs.getD k 0 + q)
      obtain ⟨k2, h2⟩ := emod_near q (lagS q xs i k * ((xs.getD i 0 - xs.getD k 0 + q) % q))
      rw [hy, h2, h1, hz]
      exact ⟨(xs.getD i 0 - xs.getD k 0) * z + y - lagS q xs i k * (1 + k1) - k2, by grind⟩
theorem lagS_unit {q : Int} (hp : PM.Pr q) (xs : List Int) (i n : Nat) (hx : ∀ j, j < n → j ≠ i → ¬ q ∣ xs.getD i 0 - xs.getD j 0) : ∀ k, k ≤ n → ¬ q ∣ lagS q xs i k
  | 0, _ => fun h => by
    rw [lagS] at h
    have h2 := hp.two
    have := Int.le_of_dvd (by omega) h
    omega
  | k + 1, hk => by
    have ih := lagS_unit hp xs i n hx k (by omega)
    rw [lagS]
    by_cases e : k = i
    · rwa [if_pos e]
    · rw [if_neg e]
      obtain ⟨k1, h1⟩ := emod_near q (xs.getD i 0 - xs.getD k 0 + q)
      obtain ⟨k2, h2⟩ := emod_near q (lagS q xs i k * ((xs.getD i 0 - xs.getD k 0 + q) % q))
      rw [h2, h1]
      rintro ⟨y, hy⟩
      have : q ∣ lagS q xs i k * (xs.getD i 0 - xs.getD k 0) := ⟨y - k2 - lagS q xs i k * (1 + k1), by grind⟩
      rcases hp.prime _ _ this with h | h
      · exact ih h
      · exact hx k (by omega) e h

/-- A multiple added. -/
def addN (q f : Int) (one out : List Int) : Nat → List Int
  | 0 => out
  | j + 1 => (addN q f one out j).set j (((addN q f one out j).getD j 0 + one.getD j 0 * f) % q)
theorem addN_length (q f : Int) (one out : List Int) : ∀ j, (addN q f one out j).length = out.length
  | 0 => rfl
  | j + 1 => by simp [addN, addN_length q f one out j]
theorem addN_elem {q : Int} (hq : 1 ≤ q) (f : Int) (one : List Int) {out : List Int} (h : elemB q out = true) : ∀ j, elemB q (addN q f one out j) = true
  | 0 => h
  | j + 1 => elemB_setN (addN_elem hq f one h j) _ (mod_bd hq _)
theorem pe_addN (q f x : Int) (one out : List Int) (hl : one.length ≤ out.length) : ∀ j, j ≤ one.length → ∃ z, pe x (addN q f one out j) = pe x out + f * pe x (one.take j) + q * z
  | 0, _ => ⟨0, by simp [addN, pe]⟩
  | j + 1, h => by
    obtain ⟨z, hz⟩ := pe_addN q f x one out hl j (by omega)
    have hal := addN_length q f one out j
    obtain ⟨k1, h1⟩ := emod_near q ((addN q f one out j).getD j 0 + one.getD j 0 * f)
    rw [addN, pe_setN _ _ _ _ (by omega), pe_take_succ x one (by omega), hz, h1]
    exact ⟨z + k1 * x ^ j, by grind⟩

def lagF (q : Int) (xs ys : List Int) (n i : Nat) : Int := ys.getD i 0 * pw q (lagS q xs i n) (q - 2).toNat % q
/-- The reference's polynomial after i places. -/
def lagOut (q : Int) (xs ys : List Int) (n : Nat) : Nat → List Int
  | 0 => List.replicate n 0
  | i + 1 => addN q (lagF q xs ys n i) (lagO q xs i n) (lagOut q xs ys n i) (lagO q xs i n).length
theorem lagOut_length (q : Int) (xs ys : List Int) (n : Nat) : ∀ i, (lagOut q xs ys n i).length = n
  | 0 => by simp [lagOut]
  | i + 1 => by rw [lagOut, addN_length, lagOut_length q xs ys n i]
theorem lagOut_elem {q : Int} (hq : 1 ≤ q) (xs ys : List Int) (n : Nat) : ∀ i, elemB q (lagOut q xs ys n i) = true
  | 0 => elemB_zeros hq _
  | i + 1 => addN_elem hq _ _ (lagOut_elem hq xs ys n i) _
theorem lagOut_val {q : Int} (hq : primeB q = true) (xs ys : List Int) (n : Nat) (hx : ∀ i j, i < n → j < n → j ≠ i → ¬ q ∣ xs.getD i 0 - xs.getD j 0) (j : Nat) (hj : j < n) :
    ∀ i, i ≤ n → ∃ z, pe (xs.getD j 0) (lagOut q xs ys n i) = (if j < i then ys.getD j 0 else 0) + q * z
  | 0, _ => ⟨0, by simp [lagOut, pe_zeros]⟩
  | i + 1, hi => by
    obtain ⟨z, hz⟩ := lagOut_val hq xs ys n hx j hj i (by omega)
    have hol := lagO_length q xs i n
    rw [if_pos (by omega)] at hol
    obtain ⟨y, hy⟩ := pe_addN q (lagF q xs ys n i) (xs.getD j 0) (lagO q xs i n) (lagOut q xs ys n i) (by rw [lagOut_length]; omega) (lagO q xs i n).length (Nat.le_refl _)
    rw [List.take_length] at hy
    rw [lagOut, hy, hz]
    by_cases e : j = i
    · subst e
      obtain ⟨a, ha⟩ := lagO_scale q xs j n
      obtain ⟨b, hb⟩ := emod_near q (ys.getD j 0 * pw q (lagS q xs j n) (q - 2).toNat)
      have hu := lagS_unit (primeB_pr hq) xs j n (fun k hk hne => hx j k hj hk hne) n (Nat.le_refl _)
      have hbd := lagS_bd (q := q) (prime_bd hq).1 xs j n
      have hinv := (pwf_inv hq hbd (fun h0 => hu (by rw [h0]; exact ⟨0, by simp⟩))).1
      unfold pwf at hinv
      obtain ⟨c, hc⟩ := emod_near q (lagS q xs j n * pw q (lagS q xs j n) (q - 2).toNat)
      rw [hinv] at hc
      rw [if_neg (by omega), if_pos (by omega), ha, lagF, hb]
      generalize pw q (lagS q xs j n) (q - 2).toNat = P at *
      generalize lagS q xs j n = S at *
      refine ⟨z + y + ys.getD j 0 * P * a + b * S + b * q * a - ys.getD j 0 * c, ?_⟩
      have hSP : S * P = 1 - q * c := by grind
      have e2 : ys.getD j 0 * (S * P) = ys.getD j 0 * (1 - q * c) := by rw [hSP]
      grind
    · obtain ⟨a, ha⟩ := lagO_root q xs i n j hj e
      rw [ha]
      refine ⟨z + lagF q xs ys n i * a + y, ?_⟩
      by_cases h : j < i
      · rw [if_pos h, if_pos (by omega)]
        grind
      · rw [if_neg h, if_neg (by omega)]
        grind
end Go.Proofs.Ytneliejncfncdaa

namespace Go.Proofs.Ytneliejncfncdaa

theorem nodup_dist {q : Int} {xs : List Int} (hx : elemB q xs = true) (hnd : xs.Nodup) {i j : Nat} (hi : i < xs.length) (hj : j < xs.length) (hne : j ≠ i) : ¬ q ∣ xs.getD i 0 - xs.getD j 0 := by
  have gi : xs.getD i 0 = xs[i] := by simp [List.getD, hi]
  have gj : xs.getD j 0 = xs[j] := by simp [List.getD, hj]
  rw [gi, gj]
  have bi := elem_get hx (k := i) hi
  have bj := elem_get hx (k := j) hj
  rintro ⟨k, hk⟩
  have : xs[i] = xs[j] := near_eq bi bj (by rw [← hk]; omega)
  have hp := List.pairwise_iff_getElem.1 hnd
  rcases Nat.lt_or_ge i j with h | h
  · exact hp i j hi hj h this
  · exact hp j i hj hi (by omega) this.symm
theorem nodup_pair {q : Int} {xs : List Int} (hx : elemB q xs = true) (hnd : xs.Nodup) : xs.Pairwise (fun a b => ¬ q ∣ a - b) := by
  rw [List.pairwise_iff_getElem]
  intro i j hi hj hij
  have := nodup_dist hx hnd hi hj (by omega)
  rwa [show xs.getD i 0 = xs[i] by simp [List.getD, hi], show xs.getD j 0 = xs[j] by simp [List.getD, hj]] at this
theorem elemB_mem {q : Int} {l : List Int} (h : elemB q l = true) : ∀ c ∈ l, 0 ≤ c ∧ c < q := fun c hc => by
  obtain ⟨i, hi, rfl⟩ := List.mem_iff_getElem.1 hc
  exact elem_get h hi
theorem thRow_get (q x y : Int) {n j : Nat} (h : j < n) : (thRow q x y n).getD j 0 = pw q x j := by
  simp [thRow, pwl, List.getD, List.getElem?_append, h]
theorem thRow_last (q x y : Int) (n : Nat) : (thRow q x y n).getD n 0 = y := by
  simp [thRow, List.getD, List.getElem?_append, pwl_length]
theorem dot_pe (q x y : Int) (n : Nat) (p : List Int) (hp : p.length = n) : ∀ k, k ≤ n → ∃ z, dot (thRow q x y n) (fun j => p.getD j 0) k = pe x (p.take k) + q * z
  | 0, _ => ⟨0, by simp [dot, pe]⟩
  | k + 1, h => by
    obtain ⟨z, hz⟩ := dot_pe q x y n p hp k (by omega)
    obtain ⟨y1, h1⟩ := pw_near q x k
    rw [dot, hz, thRow_get q x y (show k < n by omega), pe_take_succ x p (by omega), h1]
    exact ⟨z + y1 * p.getD k 0, by grind⟩
theorem sat_iff (q x y : Int) (n : Nat) (p : List Int) (hp : p.length = n) : SatR q n (thRow q x y n) (fun j => p.getD j 0) ↔ q ∣ pe x p - y := by
  obtain ⟨z, hz⟩ := dot_pe q x y n p hp n (Nat.le_refl _)
  rw [List.take_of_length_le (by omega)] at hz
  unfold SatR
  rw [hz, thRow_last]
  constructor
  · rintro ⟨k, hk⟩; exact ⟨k - z, by grind⟩
  · rintro ⟨k, hk⟩; exact ⟨k + z, by grind⟩
theorem sat_rows (q : Int) (xs ys : List Int) (n : Nat) (p : List Int) (hp : p.length = n) : Sat q n (thRows q xs ys n n) (fun j => p.getD j 0) ↔ ∀ i, i < n → q ∣ pe (xs.getD i 0) p - ys.getD i 0 := by
  unfold Sat
  rw [thRows_length]
  constructor
  · intro h i hi
    have := h i hi
    rw [show (thRows q xs ys n n).getD i [] = thRow q (xs.getD i 0) (ys.getD i 0) n by simp [thRows, List.getD, hi], sat_iff _ _ _ _ _ hp] at this
    exact this
  · intro h i hi
    rw [show (thRows q xs ys n n).getD i [] = thRow q (xs.getD i 0) (ys.getD i 0) n by simp [thRows, List.getD, hi], sat_iff _ _ _ _ _ hp]
    exact h i hi

theorem lag_vals {q : Int} (hq : primeB q = true) {xs ys : List Int} {n : Nat} (hx : elemB q xs = true) (hl : xs.length = n) (hnd : xs.Nodup) : ∀ i, i < n → q ∣ pe (xs.getD i 0) (lagOut q xs ys n n) - ys.getD i 0 := by
  intro i hi
  obtain ⟨z, hz⟩ := lagOut_val hq xs ys n (fun a b ha hb hne => nodup_dist hx hnd (by omega) (by omega) hne) i hi n (Nat.le_refl _)
  rw [if_pos hi] at hz
  exact ⟨z, by omega⟩
theorem through_facts {q : Int} (hq : primeB q = true) {xs ys : List Int} {n : Nat} (hx : elemB q xs = true) (hy : elemB q ys = true) (hl : xs.length = n) (hnd : xs.Nodup) :
    (thP q xs ys n).length = n ∧ elemB q (thP q xs ys n) = true ∧ ∀ i, i < n → q ∣ pe (xs.getD i 0) (thP q xs ys n) - ys.getD i 0 := by
  have hb := prime_bd hq
  have hg := thRows_good hb.1 xs ys hy n n
  have hsr := solve_right hq hg
  have hpl := lagOut_length q xs ys n n
  have hok : okOf (thSt q xs ys n) n = true := by
    cases h : okOf (thSt q xs ys n) n with
    | true => rfl
    | false => exact absurd ((sat_rows q xs ys n _ hpl).2 (lag_vals hq hx hl hnd)) (hsr.2 h _)
  have hP : thP q xs ys n = outOf (thSt q xs ys n) n := by unfold thP; rw [hok]; rfl
  rw [hP]
  have hol : (outOf (thSt q xs ys n) n).length = n := outOf_length _ _
  exact ⟨hol, outOf_elem (by omega) (steps_facts (pwf q) q (by omega) _ _ _ hg n (Nat.le_refl _)).2.1 _, (sat_rows q xs ys n _ hol).1 (hsr.1 hok)⟩
theorem through_eq {q : Int} (hq : primeB q = true) {xs ys : List Int} {n : Nat} (hx : elemB q xs = true) (hy : elemB q ys = true) (hl : xs.length = n) (hnd : xs.Nodup) : thP q xs ys n = lagOut q xs ys n n := by
  have hb := prime_bd hq
  obtain ⟨h1, h2, h3⟩ := through_facts (ys := ys) hq hx hy hl hnd
  have h4 := lagOut_length q xs ys n n
  have h5 := lagOut_elem (q := q) (by omega) xs ys n n
  have h6 := lag_vals (ys := ys) hq hx hl hnd
  refine PM.eq_of_values (primeB_pr hq) xs _ _ (by omega) (by omega) (nodup_pair hx hnd) (elemB_mem h2) (elemB_mem h5) fun x hm => ?_
  obtain ⟨i, hi, rfl⟩ := List.mem_iff_getElem.1 hm
  rw [← pe_ev, ← pe_ev]
  obtain ⟨a, ha⟩ := h3 i (by omega)
  obtain ⟨b, hb⟩ := h6 i (by omega)
  rw [show xs.getD i 0 = xs[i] by simp [List.getD, hi]] at ha hb
  exact ⟨a - b, by grind⟩
end Go.Proofs.Ytneliejncfncdaa
