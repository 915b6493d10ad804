/- Texts Ja in one. -/
import Derived.Test.YtneliejncfncdaaPkQ
import Derived.Test.YtneliejncfncdaaPkFa
namespace Go.Proofs.Ytneliejncfncdaa

/-- The sum of two polynomials, as the law makes it: k elements of b are added. -/
def sumL (q : Int) (a b : List Int) : Nat → List Int
  | 0 => a
  | k + 1 => if k < (sumL q a b k).length then (sumL q a b k).set k (((sumL q a b k).getD k 0 + b.getD k 0) % q) else sumL q a b k ++ [b.getD k 0]
theorem sumL_length (q : Int) (a b : List Int) : ∀ k, (sumL q a b k).length = max a.length k
  | 0 => by simp [sumL]
  | k + 1 => by
    have := sumL_length q a b k
    rw [sumL]
    split
    · rw [List.length_set]; omega
    · rw [List.length_append]; simp; omega
theorem elemB_set {q : Int} {l : List Int} (h : elemB q l = true) (k : Nat) {y : Int} (hy : 0 ≤ y ∧ y < q) : elemB q (l.set k y) = true := by
  rw [elemB_iff'] at h ⊢
  intro j x hx
  rw [List.getElem?_set] at hx
  split at hx
  · split at hx
    · cases hx; exact hy
    · cases hx
  · exact h j x hx
theorem elemB_snoc {q : Int} {l : List Int} (h : elemB q l = true) {y : Int} (hy : 0 ≤ y ∧ y < q) : elemB q (l ++ [y]) = true := by
  unfold elemB at *
  rw [List.all_append, h]
  simp
  exact hy
theorem elemB_getD {q : Int} (hq : 1 ≤ q) {l : List Int} (h : elemB q l = true) (k : Nat) : 0 ≤ l.getD k 0 ∧ l.getD k 0 < q := by
  rw [elemB_iff'] at h
  simp only [List.getD]
  cases hk : l[k]? with
  | none => simp; omega
  | some x => exact h k x hk
theorem sumL_elem {q : Int} (hq : 1 ≤ q) {a b : List Int} (ha : elemB q a = true) (hb : elemB q b = true) : ∀ k, elemB q (sumL q a b k) = true
  | 0 => ha
  | k + 1 => by
    have ih := sumL_elem hq ha hb k
    rw [sumL]
    split
    · exact elemB_set ih k ⟨Int.emod_nonneg _ (by omega), Int.emod_lt_of_pos _ (by omega)⟩
    · exact elemB_snoc ih (elemB_getD hq hb k)
theorem pe_set (x : Int) : ∀ (l : List Int) (k : Nat) (y : Int), k < l.length → pe x (l.set k y) = pe x l + (y - l.getD k 0) * x ^ k
  | [], k, y, h => by simp at h
  | c :: cs, 0, y, _ => by simp [pe]; grind
  | c :: cs, k + 1, y, h => by
    have ih := pe_set x cs k y (by simpa using h)
    simp only [List.set_cons_succ, pe, ih, List.getD_cons_succ, Int.pow_succ]
    grind
theorem sumL_near (q : Int) (x : Int) (a b : List Int) : ∀ k, k ≤ b.length → ∃ z, pe x (sumL q a b k) = pe x a + pe x (b.take k) + q * z
  | 0, _ => ⟨0, by simp [sumL, pe]⟩
  | k + 1, hk => by
    obtain ⟨z, hz⟩ := sumL_near q x a b k (by omega)
    have hx : b.take (k + 1) = b.take k ++ [b.getD k 0] := by
      rw [List.take_add_one, List.getElem?_eq_getElem (by omega)]
      simp [List.getD, show k < b.length by omega]
    have hl : (b.take k).length = k := by simp; omega
    rw [sumL]
    split
    · rename_i h
      rw [pe_set x _ k _ h, hz, hx, pe_append, hl]
      obtain ⟨z2, h2⟩ := emod_near q ((sumL q a b k).getD k 0 + b.getD k 0)
      rw [h2]
      exact ⟨z + z2 * x ^ k, by grind⟩
    · rename_i h
      have hlen := sumL_length q a b k
      rw [pe_append, hz, hx, pe_append, hl, show (sumL q a b k).length = k by omega]
      exact ⟨z, by grind⟩
theorem sumL_hv {q : Int} (hq : 1 ≤ q) (x : Int) (a b : List Int) : hv q x (sumL q a b b.length) = (hv q x a + hv q x b) % q := by
  obtain ⟨z, hz⟩ := sumL_near q x a b b.length (Nat.le_refl _)
  obtain ⟨k0, h0⟩ := hv_near q x (sumL q a b b.length)
  obtain ⟨k1, h1⟩ := hv_near q x a
  obtain ⟨k2, h2⟩ := hv_near q x b
  obtain ⟨k3, h3⟩ := emod_near q (hv q x a + hv q x b)
  rw [List.take_length] at hz
  refine near_eq (k := z + k0 - k1 - k2 - k3) (hv_bd hq _) ⟨Int.emod_nonneg _ (by omega), Int.emod_lt_of_pos _ (by omega)⟩ ?_
  rw [h0, hz, h3, h1, h2]
  grind

/-- The inverse of elements, tried one by one. -/
theorem inv_small : ∀ (p : Fin 32) (a : Fin 32), primeB p.val = true → 0 < a.val → a.val < p.val →
    1 ≤ pw p.val a.val (p.val - 2) ∧ pw p.val a.val (p.val - 2) < p.val ∧ (a.val : Int) * pw p.val a.val (p.val - 2) % p.val = 1 ∧ pw p.val (pw p.val a.val (p.val - 2)) (p.val - 2) = a.val := by decide +kernel
theorem inv_four {q a : Int} (hq : primeB q = true) (ha : 1 ≤ a ∧ a < q) :
    1 ≤ pw q a (q - 2).toNat ∧ pw q a (q - 2).toNat < q ∧ a * pw q a (q - 2).toNat % q = 1 ∧ pw q (pw q a (q - 2).toNat) (q - 2).toNat = a := by
  have hb := prime_bd hq
  obtain ⟨m, rfl⟩ := Int.eq_ofNat_of_zero_le (show 0 ≤ q by omega)
  obtain ⟨k, rfl⟩ := Int.eq_ofNat_of_zero_le (show 0 ≤ a by omega)
  have := inv_small ⟨m, by omega⟩ ⟨k, by omega⟩ hq (by show 0 < k; omega) (by show k < m; omega)
  rw [show ((m : Int) - 2).toNat = m - 2 by omega]
  exact this
end Go.Proofs.Ytneliejncfncdaa
