import Derived.Test.YtneliejncfncdaaRows
import Derived.WalkKit
import Derived.WalkSpells
import Derived.WalkLawsBesides
import Derived.BigQuiet
import Derived.Deep.QuietTactic
import Derived.Lib.Hide
namespace Go.Proofs.Ytneliejncfncdaa
open Go.RowKit

theorem ret_int {k : IntKind} {a b : Int} (h : a = b) : Ending.returned (.int k a) = .returned (.int k b) := by rw [h]

theorem mul_bd {q a b : Int} (ha : 0 ≤ a ∧ a ≤ 1000000) (hb : 0 ≤ b ∧ b ≤ 1000000) : 0 ≤ a * b ∧ a * b ≤ 1000000000000 := by
  refine ⟨Int.mul_nonneg ha.1 hb.1, ?_⟩
  have := Int.mul_le_mul ha.2 hb.2 hb.1 (by omega)
  omega

theorem add_any (q a b : Int) (w : World) (hq : 1 ≤ q) (ha : 0 ≤ a ∧ a ≤ 1000000) (hb : 0 ≤ b ∧ b ≤ 1000000) :
    Calls Try.prog 81 #[.int .i64 q, .int .i64 a, .int .i64 b] w fun e w' => e = .returned (.int .i64 ((a + b) % q)) ∧ w' = w := by
  go_enter Try.func81, Try.ntmps81
  go_wp2
  go_ret
  exact ⟨rfl, rfl⟩

theorem mul_any (q a b : Int) (w : World) (hq : 1 ≤ q) (ha : 0 ≤ a ∧ a ≤ 1000000) (hb : 0 ≤ b ∧ b ≤ 1000000) :
    Calls Try.prog 78 #[.int .i64 q, .int .i64 a, .int .i64 b] w fun e w' => e = .returned (.int .i64 ((a * b) % q)) ∧ w' = w := by
  have := mul_bd (q := q) ha hb
  obtain ⟨h1, h2⟩ := this
  go_enter Try.func78, Try.ntmps78
  go_wp2
  go_ret
  exact ⟨rfl, rfl⟩

theorem sub_any (q a b : Int) (w : World) (hq : 1 ≤ q ∧ q ≤ 1000000) (ha : 0 ≤ a ∧ a ≤ 1000000) (hb : 0 ≤ b ∧ b ≤ q) :
    Calls Try.prog 77 #[.int .i64 q, .int .i64 a, .int .i64 b] w fun e w' => e = .returned (.int .i64 ((a - b) % q)) ∧ w' = w := by
  have e0 : (a - b + q) % q = (a - b) % q := by simp
  have E := Lib.hid e0
  clear e0
  go_enter Try.func77, Try.ntmps77
  go_wp2
  go_ret
  exact ⟨ret_int E.out, rfl⟩

theorem must_yes (w : World) : Calls Try.prog 60 #[.bool true] w fun e w' => e = .returned (.tuple #[]) ∧ w' = w := by
  go_enter Try.func60, Try.ntmps60
  go_wp2
  go_end0
  exact ⟨rfl, rfl⟩

/-- The panic of an error. -/
def refusal (n : Int) : List PanicEntry := [{ v := .iface 94 (.agg #[.int .i64 n]), recovered := false }]

theorem must_no (w : World) : Calls Try.prog 60 #[.bool false] w fun e w' => e = .panicked (refusal 1) ∧ w' = w := by
  go_enter Try.func60, Try.ntmps60
  go_wp2
  exact ⟨rfl, rfl, rfl⟩

/-- seal.Prime. -/
def primeB (q : Int) : Bool := decide (q ∈ ([2, 3, 5, 7, 11, 13, 17, 19, 23, 29, 31] : List Int))
theorem primeB_iff (q : Int) : primeB q = true ↔ q = 2 ∨ q = 3 ∨ q = 5 ∨ q = 7 ∨ q = 11 ∨ q = 13 ∨ q = 17 ∨ q = 19 ∨ q = 23 ∨ q = 29 ∨ q = 31 := by
  simp [primeB]

theorem prime_bd {q : Int} (h : primeB q = true) : 2 ≤ q ∧ q ≤ 31 := by
  rw [primeB_iff] at h; omega
theorem primeB_false {q : Int} (h : ¬ (q = 2 ∨ q = 3 ∨ q = 5 ∨ q = 7 ∨ q = 11 ∨ q = 13 ∨ q = 17 ∨ q = 19 ∨ q = 23 ∨ q = 29 ∨ q = 31)) : primeB q = false := by
  rw [← primeB_iff] at h; simpa using h

theorem prime_small : ∀ n : Fin 32, (2 ≤ n.val ∧ (n.val < 4 ∨ n.val % 2 ≠ 0) ∧ (n.val < 9 ∨ n.val % 3 ≠ 0) ∧ (n.val < 25 ∨ n.val % 5 ≠ 0)) →
    primeB (n.val : Int) = true := by decide +kernel
theorem primeB_true {q : Int} (h0 : 2 ≤ q) (h1 : q ≤ 31) (a : q < 4 ∨ q % 2 ≠ 0) (b : q < 9 ∨ q % 3 ≠ 0) (c : q < 25 ∨ q % 5 ≠ 0) : primeB q = true := by
  obtain ⟨n, rfl⟩ := Int.eq_ofNat_of_zero_le (show 0 ≤ q by omega)
  exact prime_small ⟨n, by omega⟩ ⟨by simp; omega, by simp; omega, by simp; omega, by simp; omega⟩

theorem prime_any (q : Int) (w : World) : Calls Try.prog 32 #[.int .i64 q] w fun e w' => e = .returned (.bool (primeB q)) ∧ w' = w := by
  by_cases h1 : q < 2
  · have e : primeB q = false := primeB_false (by omega)
    go_enter Try.func32, Try.ntmps32
    go_wp2
    go_ret
    simp [e]
  by_cases h2 : 31 < q
  · have e : primeB q = false := primeB_false (by omega)
    go_enter Try.func32, Try.ntmps32
    go_wp2
    go_ret
    simp [e]
  go_enter Try.func32, Try.ntmps32
  go_wp2
  go_loop [3] (fun s => ∃ d : Int, s = .int .i64 d ∧ (d = 2 ∨ d = 3 ∧ q % 2 ≠ 0 ∨ d = 4 ∧ q % 2 ≠ 0 ∧ q % 3 ≠ 0 ∨ d = 5 ∧ q % 2 ≠ 0 ∧ q % 3 ≠ 0 ∨ d = 6 ∧ q % 2 ≠ 0 ∧ q % 3 ≠ 0 ∧ q % 5 ≠ 0)) (fun s => (6 - intOf s).toNat)
  case atStart => exact ⟨2, rfl, Or.inl rfl⟩
  case round =>
    obtain ⟨d, rfl, hd⟩ := hrel
    rcases hd with rfl | ⟨rfl, hd⟩ | ⟨rfl, hd⟩ | ⟨rfl, hd⟩ | ⟨rfl, hd⟩
    all_goals
      go_wp2
      all_goals (try simp only [beq_iff_eq, beq_eq_false_iff_ne] at *)
      all_goals first
        | (go_round
           case rel => exact ⟨_, rfl, by omega⟩
           case measure => simp [intOf])
        | (go_ret
           refine ⟨?_, rfl⟩
           first
           | (rw [primeB_false (by omega)]; rfl)
           | (rw [primeB_true h1 h2 (by omega) (by omega) (by omega)]; rfl))

/-- All numbers of a list are elements. -/
def elemB (q : Int) (l : List Int) : Bool := l.all fun n => decide (0 ≤ n) && decide (n < q)

end Go.Proofs.Ytneliejncfncdaa
