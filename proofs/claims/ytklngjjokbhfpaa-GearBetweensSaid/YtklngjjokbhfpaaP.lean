/- gear's floor, turned. -/
import Derived.Test.YtklngjjokbhfpaaO
namespace Go.Proofs.Ytklngjjokbhfpaa
open Go.RowKit

/-- The quotient that Go takes, of a number below 0. -/
theorem floor_neg (p q : Int) (hp : p < 0) (hq : 1 ≤ q) : p ≤ p.tdiv q ∧ p.tdiv q ≤ 0 ∧ -q < p.tmod q ∧ p.tmod q ≤ 0 ∧ (p.tmod q < 0 → p.tdiv q - 1 = p / q) ∧ (¬ p.tmod q < 0 → p.tdiv q = p / q) := by
  obtain ⟨n, rfl⟩ : ∃ n : Int, p = -n := ⟨-p, by omega⟩
  rw [Int.neg_tdiv, Int.neg_tmod, Int.tdiv_eq_ediv_of_nonneg (by omega), Int.tmod_eq_emod_of_nonneg (by omega)]
  have h1 := Int.mul_ediv_add_emod n q
  have h2 := Int.emod_nonneg n (show q ≠ 0 by omega)
  have h3 := Int.emod_lt_of_pos n (show 0 < q by omega)
  have h4 : 0 ≤ n / q := Int.ediv_nonneg (by omega) (by omega)
  have h5 : n / q ≤ n := Int.ediv_le_self _ (by omega)
  refine ⟨by omega, by omega, by omega, by omega, fun h => ?_, fun h => ?_⟩
  · symm
    have e : (-n) / q = -(n / q) - 1 := by
      have hh : -n = (q - n % q) + q * (-(n / q) - 1) := by
        rw [Int.mul_sub, Int.mul_neg]; omega
      rw [hh, Int.add_mul_ediv_left _ _ (by omega), Int.ediv_eq_zero_of_lt (by omega) (by omega)]
      omega
    exact e
  · have hz : n % q = 0 := by omega
    have hh : -n = 0 + q * (-(n / q)) := by rw [Int.mul_neg]; omega
    rw [hh, Int.add_mul_ediv_left _ _ (by omega)]
    simp

set_option maxRecDepth 100000 in
set_option maxHeartbeats 800000 in
theorem floor_any (p q : Int) (w : World) (hp : I64 p) (hq : 1 ≤ q ∧ q ≤ 9223372036854775807) :
    Calls Try.prog 45 #[.agg #[.int .i64 p, .int .i64 q]] w (RetV (.int .i64 (p / q)) w) := by
  obtain ⟨hp1, hp2⟩ := hp
  obtain ⟨hq1, hq2⟩ := hq
  have hB : ∀ o, Below w.heap.size w (w.alloc o) := fun o => (Below.refl _ _).alloc (Nat.le_refl _) _
  have HB := Lib.hid hB
  have q0 : ¬ q = 0 := by omega
  clear hB
  by_cases hpn : p < 0
  · obtain ⟨f1, f2, f3, f4, f5, f6⟩ := floor_neg p q hpn hq1
    have F5 := Lib.hid f5
    have F6 := Lib.hid f6
    clear f5 f6
    have w1 : IntKind.i64.wrap (p.tdiv q) = p.tdiv q := IntWalk.i64_in _ (by omega)
    have w2 : IntKind.i64.wrap (p.tmod q) = p.tmod q := IntWalk.i64_in _ (by omega)
    by_cases hm : p.tmod q < 0
    · have hpq : p ≤ p / q := Int.le_ediv_of_mul_le (by omega) (by have := Int.mul_le_mul_of_nonpos_left (a := p) (show p ≤ 0 by omega) hq1; simpa using this)
      have hpq2 := F5.out hm
      have w3 : IntKind.i64.wrap (p.tdiv q - 1) = p.tdiv q - 1 := IntWalk.i64_in _ (by omega)
      clear hpq hpq2
      go_enter Try.func45, Try.ntmps45
      go_wp2
      go_ret
      exact ⟨by rw [F5.out hm]; rfl, HB.out _⟩
    · have hd : decide (p.tmod q < 0) = false := decide_eq_false hm
      go_enter Try.func45, Try.ntmps45
      go_wp2
      go_ret
      exact ⟨by rw [F6.out (by omega)]; rfl, HB.out _⟩
  · have hm : 0 ≤ p % q := Int.emod_nonneg _ q0
    go_enter Try.func45, Try.ntmps45
    go_wp2
    go_ret
    exact ⟨rfl, HB.out _⟩

set_option maxHeartbeats 400000 in
theorem turned_any (p q : Int) (w : World) (hp : -9223372036854775807 ≤ p ∧ p ≤ 9223372036854775807) :
    Calls Try.prog 32 #[.agg #[.int .i64 p, .int .i64 q]] w (RetV (.agg #[.int .i64 (-p), .int .i64 q]) w) := by
  obtain ⟨h1, h2⟩ := hp
  have hB : ∀ o o', Below w.heap.size w ((w.alloc o).alloc o') := fun o o' => ((Below.refl _ _).alloc (Nat.le_refl _) _).alloc (by simp) _
  have HB := Lib.hid hB
  clear hB
  go_enter Try.func32, Try.ntmps32
  go_wp2
  refine bodyPost_ret (v := .agg #[.int .i64 (-p), .int .i64 q]) (by simp [results, Try.results32, go_sem]) rfl ⟨rfl, HB.out _ _⟩
end Go.Proofs.Ytklngjjokbhfpaa
