/- wide's Mul: the law of the rows. No program in sight. -/
import Derived.Test.YtklngjjokbhfpaaK
namespace DG

theorem dv_set (b : Int) : ∀ (l : List Int) (k : Nat) (v : Int), k < l.length → dv b (l.set k v) = dv b l + (v - l.getD k 0) * b ^ k
  | [], k, v, h => by simp at h
  | x :: l, 0, v, _ => by simp [dv]; omega
  | x :: l, k + 1, v, h => by
    have ih := dv_set b l k v (by simpa using h)
    simp only [List.set_cons_succ, dv, List.getD_cons_succ]
    rw [ih, Int.mul_add, Int.pow_succ, ← Int.add_assoc]
    congr 1
    rw [Int.mul_comm b, Int.mul_assoc]
theorem getD_set_eq (l : List Int) (k : Nat) (v : Int) (h : k < l.length) : (l.set k v).getD k 0 = v := by simp [List.getD, h]
theorem getD_set_ne (l : List Int) (k j : Nat) (v : Int) (h : k ≠ j) : (l.set k v).getD j 0 = l.getD j 0 := by
  simp [List.getD, List.getElem?_set_ne h]
theorem mul_t {b x y z c : Int} (hb : 2 ≤ b) (hx : 0 ≤ x ∧ x < b) (hy : 0 ≤ y ∧ y < b) (hz : 0 ≤ z ∧ z < b) (hc : 0 ≤ c ∧ c < b) : 0 ≤ x * y ∧ x * y ≤ (b - 1) * (b - 1) ∧ 0 ≤ x * y + z + c ∧ x * y + z + c < b * b := by
  have h1 : 0 ≤ x * y := Int.mul_nonneg hx.1 hy.1
  have h2 : x * y ≤ (b - 1) * (b - 1) := Int.mul_le_mul (by omega) (by omega) hy.1 (by omega)
  have h3 : (b - 1) * (b - 1) = b * b - 2 * b + 1 := by
    rw [Int.sub_mul, Int.mul_sub]; omega
  refine ⟨h1, h2, by omega, by omega⟩
/-- A row of the multiplication under way. -/
structure MRow (b : Int) (V0 X : Int) (Y : Nat → Int) (L i m j : Nat) (zs : List Int) (c : Int) : Prop where
  len : zs.length = L
  dig : Dig b zs
  car : 0 ≤ c ∧ c < b
  val : dv b zs + c * b ^ (i + j) = V0 + X * ds b Y j * b ^ i
  nil : ∀ k, i + m ≤ k → zs.getD k 0 = 0
/-- Some rows of the multiplication. -/
structure MRows (b : Int) (X : Nat → Int) (V : Int) (L m i : Nat) (zs : List Int) : Prop where
  len : zs.length = L
  dig : Dig b zs
  val : dv b zs = ds b X i * V
  nil : ∀ k, i + m ≤ k → zs.getD k 0 = 0
theorem MRows.start {b : Int} (hb : 1 ≤ b) (X : Nat → Int) (V : Int) (L m : Nat) : MRows b X V L m 0 (List.replicate L 0) :=
  ⟨by simp, Dig.zeros hb L, by rw [dv_zeros, ds, Int.zero_mul], fun k _ => by
    simp only [List.getD, List.getElem?_replicate]
    split <;> rfl⟩
theorem MRows.row {b : Int} {X : Nat → Int} {V : Int} {L m i : Nat} {zs : List Int} (h : MRows b X V L m i zs) (hb : 2 ≤ b) (x : Int) (Y : Nat → Int) : MRow b (dv b zs) x Y L i m 0 zs 0 :=
  ⟨h.len, h.dig, by omega, by simp [ds], h.nil⟩
theorem MRow.step {b : Int} {V0 X : Int} {Y : Nat → Int} {L i m j : Nat} {zs : List Int} {c : Int} (h : MRow b V0 X Y L i m j zs c) (hb : 2 ≤ b) (hL : i + m ≤ L) (hj : j < m) (hX : 0 ≤ X ∧ X < b) (hY : 0 ≤ Y j ∧ Y j < b) :
    MRow b V0 X Y L i m (j + 1) (zs.set (i + j) ((X * Y j + zs.getD (i + j) 0 + c) % b)) ((X * Y j + zs.getD (i + j) 0 + c) / b) := by
  have hz := h.dig.getD (by omega) (i + j)
  have ht := mul_t hb hX hY hz h.car
  have hv := dv_set b zs (i + j) ((X * Y j + zs.getD (i + j) 0 + c) % b) (by rw [h.len]; omega)
  have hval := h.val
  generalize zs.getD (i + j) 0 = z at *
  generalize hT : X * Y j + z + c = t at *
  have hm : 0 ≤ t % b := Int.emod_nonneg _ (by omega)
  have hm2 : t % b < b := Int.emod_lt_of_pos _ (by omega)
  refine ⟨by rw [List.length_set]; exact h.len, h.dig.set _ ⟨hm, hm2⟩, ⟨Int.ediv_nonneg ht.2.2.1 (by omega), Int.ediv_lt_of_lt_mul (by omega) ht.2.2.2⟩, ?_, fun k hk => ?_⟩
  · rw [hv]
    have e1 : t = b * (t / b) + t % b := (Int.mul_ediv_add_emod t b).symm
    have e2 : b ^ (i + (j + 1)) = b ^ (i + j) * b := Int.pow_succ _ _
    have e3 : ds b Y (j + 1) = ds b Y j + Y j * b ^ j := rfl
    have e4 : b ^ (i + j) = b ^ i * b ^ j := Int.pow_add _ _ _
    rw [e2, e3]
    have e5 : X * (ds b Y j + Y j * b ^ j) * b ^ i = X * ds b Y j * b ^ i + (X * Y j) * b ^ (i + j) := by
      rw [e4, Int.mul_add, Int.add_mul]
      congr 1
      rw [← Int.mul_assoc X, Int.mul_assoc, Int.mul_comm (b ^ j)]
    rw [e5, ← Int.add_assoc, ← hval]
    have e6 : t / b * (b ^ (i + j) * b) = (b * (t / b)) * b ^ (i + j) := by
      rw [Int.mul_comm (b ^ (i + j)) b, ← Int.mul_assoc, Int.mul_comm (t / b) b]
    rw [e6]
    generalize b * (t / b) = u at *
    generalize b ^ (i + j) = p at *
    have e7 : X * Y j = u + t % b - z - c := by omega
    rw [e7]
    simp only [Int.sub_mul, Int.add_mul]
    omega
  · rw [getD_set_ne _ _ _ _ (by omega)]
    exact h.nil k hk
theorem MRow.done {b : Int} {X : Nat → Int} {V : Int} {Y : Nat → Int} {L m i : Nat} {zs0 zs : List Int} {c : Int} (h0 : MRows b X V L m i zs0) (h : MRow b (dv b zs0) (X i) Y L i m m zs c) (hL : i + m < L) (hV : ds b Y m = V) :
    MRows b X V L m (i + 1) (zs.set (i + m) c) := by
  have hv := dv_set b zs (i + m) c (by rw [h.len]; omega)
  rw [h.nil (i + m) (Nat.le_refl _)] at hv
  refine ⟨by rw [List.length_set]; exact h.len, h.dig.set _ h.car, ?_, fun k hk => ?_⟩
  · rw [hv]
    have := h.val
    have e3 : ds b X (i + 1) = ds b X i + X i * b ^ i := rfl
    rw [e3, Int.add_mul, ← h0.val]
    rw [hV] at this
    have e4 : X i * V * b ^ i = X i * b ^ i * V := by rw [Int.mul_assoc, Int.mul_comm V, ← Int.mul_assoc]
    rw [e4] at this
    simp only [Int.sub_zero]
    exact this
  · rw [getD_set_ne _ _ _ _ (by omega)]
    exact h.nil k (by omega)
end DG
