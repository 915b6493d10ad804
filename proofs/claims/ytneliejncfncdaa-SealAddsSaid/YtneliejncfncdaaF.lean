import Derived.Test.YtneliejncfncdaaE
namespace Go.Proofs.Ytneliejncfncdaa
open Go.RowKit

theorem pow_bd {q : Int} (hq : 1 ≤ q) : ∀ k : Nat, 1 ≤ q ^ k
  | 0 => by simp
  | k + 1 => by
    have := pow_bd hq k
    rw [Int.pow_succ]
    have := Int.mul_le_mul this hq (by omega) (by omega)
    omega

theorem pow_mono {q : Int} (hq : 1 ≤ q) {k m : Nat} (h : k ≤ m) : q ^ k ≤ q ^ m := by
  obtain ⟨d, rfl⟩ := Nat.exists_eq_add_of_le h
  rw [Int.pow_add]
  have h1 := pow_bd hq k
  have h2 := pow_bd hq d
  have := Int.mul_le_mul (Int.le_refl (q ^ k)) h2 (by omega) (by omega)
  omega

/-- seal.items. -/
def itemsM (q t n : Int) : Int := if primeB q && decide (1 ≤ t) && decide (t ≤ q) && decide (t ≤ n) && decide (n ≤ q) && decide (q ^ t.toNat ≤ 1000) then q ^ t.toNat else 0

abbrev pools (q t n : Int) : Value := .agg #[.int .i64 q, .int .i64 t, .int .i64 n]

theorem items_zero {q t n : Int} (h : ¬ (primeB q = true ∧ 1 ≤ t ∧ t ≤ q ∧ t ≤ n ∧ n ≤ q ∧ q ^ t.toNat ≤ 1000)) : itemsM q t n = 0 := by
  unfold itemsM
  rw [if_neg]
  simpa [and_assoc] using h
theorem items_pow {q t n : Int} (h : primeB q = true ∧ 1 ≤ t ∧ t ≤ q ∧ t ≤ n ∧ n ≤ q ∧ q ^ t.toNat ≤ 1000) : itemsM q t n = q ^ t.toNat := by
  unfold itemsM
  rw [if_pos]
  simpa [and_assoc] using h

set_option maxHeartbeats 800000 in
theorem items_any (q t n : Int) (w : World) :
    Calls Try.prog 64 #[pools q t n] w fun e w' => e = .returned (.int .i64 (itemsM q t n)) ∧ Below w.heap.size w w' := by
  have hbel : ∀ o, Below w.heap.size w (w.alloc o) := fun o => (Below.refl _ _).alloc (Nat.le_refl _) _
  by_cases h1 : primeB q = true
  · by_cases h2 : t < 1
    · have e2 := Lib.hid (items_zero (q := q) (t := t) (n := n) (by omega))
      go_enter Try.func64, Try.ntmps64
      go_wp2_with (go_at_call 32; refine (prime_any _ _).mono ?_; rintro e w' ⟨rfl, rfl⟩)
      go_ret
      exact ⟨ret_int e2.out.symm, hbel _⟩
    by_cases h3 : q < t
    · have e2 := Lib.hid (items_zero (q := q) (t := t) (n := n) (by omega))
      go_enter Try.func64, Try.ntmps64
      go_wp2_with (go_at_call 32; refine (prime_any _ _).mono ?_; rintro e w' ⟨rfl, rfl⟩)
      go_ret
      exact ⟨ret_int e2.out.symm, hbel _⟩
    by_cases h4 : n < t
    · have e2 := Lib.hid (items_zero (q := q) (t := t) (n := n) (by omega))
      go_enter Try.func64, Try.ntmps64
      go_wp2_with (go_at_call 32; refine (prime_any _ _).mono ?_; rintro e w' ⟨rfl, rfl⟩)
      go_ret
      exact ⟨ret_int e2.out.symm, hbel _⟩
    by_cases h5 : q < n
    · have e2 := Lib.hid (items_zero (q := q) (t := t) (n := n) (by omega))
      go_enter Try.func64, Try.ntmps64
      go_wp2_with (go_at_call 32; refine (prime_any _ _).mono ?_; rintro e w' ⟨rfl, rfl⟩)
      go_ret
      exact ⟨ret_int e2.out.symm, hbel _⟩
    have hq := prime_bd h1
    obtain ⟨hq1, hq2⟩ := hq
    go_enter Try.func64, Try.ntmps64
    go_wp2_with (go_at_call 32; refine (prime_any _ _).mono ?_; rintro e w' ⟨rfl, rfl⟩)
    go_loop [3, 36] (fun s i => ∃ k : Nat, (k : Int) ≤ t ∧ i = .int .i64 k ∧ ∃ m : Int, s = .int .i64 m ∧ q ^ k = m ∧ m ≤ 1000) (fun _ i => (t - intOf i).toNat)
    case atStart => exact ⟨0, by omega, rfl, 1, rfl, by simp, by omega⟩
    case round =>
      obtain ⟨k, hk, rfl, m, rfl, hm, hm2⟩ := hrel
      have hm1 : 1 ≤ m := by rw [← hm]; exact pow_bd (by omega) k
      have hs : q ^ (k + 1) = m * q := by rw [Int.pow_succ, hm]
      have HM := Lib.hid hm
      have HS := Lib.hid hs
      clear hm hs
      have hmq1 : 0 ≤ m * q := Int.mul_nonneg (by omega) (by omega)
      have hmq2 : m * q ≤ 1000 * 31 := Int.mul_le_mul hm2 hq2 (by omega) (by omega)
      by_cases hlt : (k : Int) < t
      · by_cases hbig : 1000 < m * q
        · have hfin : itemsM q t n = 0 := items_zero (by
            have := pow_mono (q := q) (by omega) (show k + 1 ≤ t.toNat by omega)
            rw [HS.out] at this
            omega)
          have HF := Lib.hid hfin
          clear hfin
          go_wp2
          go_ret
          exact ⟨ret_int HF.out.symm, hbel _⟩
        · go_wp2
          go_round
          case rel => exact ⟨k + 1, by omega, by go_num, _, rfl, HS.out, by omega⟩
          case measure => simp [intOf]; omega
      · have hk2 : itemsM q t n = m := by
          have e : q ^ t.toNat = m := by rw [← HM.out, show t.toNat = k by omega]
          rw [items_pow ⟨h1, by omega, by omega, by omega, by omega, by omega⟩, e]
        have HF := Lib.hid hk2
        clear hk2
        go_wp2
        go_ret
        exact ⟨ret_int HF.out.symm, hbel _⟩
  · have hp : primeB q = false := by simpa using h1
    have e2 := Lib.hid (items_zero (q := q) (t := t) (n := n) (fun h => h1 h.1))
    clear h1
    go_enter Try.func64, Try.ntmps64
    go_wp2_with (go_at_call 32; refine (prime_any _ _).mono ?_; rintro e w' ⟨rfl, rfl⟩)
    go_ret
    exact ⟨ret_int e2.out.symm, hbel _⟩
end Go.Proofs.Ytneliejncfncdaa
