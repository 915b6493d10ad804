/- The law's helper order. -/
import Derived.Test.YtneliejncfncdaaFb
namespace Go.Proofs.Ytneliejncfncdaa
open Go.RowKit

/-- The order that a number names. -/
def ordP (n : Int) : Int := ([2, 3, 5, 7, 11, 13, 17, 19, 23, 29, 31] : List Int).getD (n % 11).toNat 0

set_option maxRecDepth 100000 in
set_option maxHeartbeats 1600000 in
theorem order_any (n : Int) (w : World) (hn : I64 n) : Calls Try.prog 35 #[.int .i64 n] w fun e w' => e = .returned (.int .i64 (ordP n)) ∧ Below w.heap.size w w' := by
  have hf : ∀ W, Calls Try.prog 26 #[.int .i64 n, .int .i64 11] W fun e w' => e = .returned (.int .i64 (n % 11)) ∧ W = w' := fun W => (fold_any n 11 W hn ⟨by omega, by omega⟩).mono fun e w' h => ⟨h.1, h.2.symm⟩
  have h0 := Int.emod_nonneg n (show (11 : Int) ≠ 0 by omega)
  have h1 := Int.emod_lt_of_pos n (show (0 : Int) < 11 by omega)
  have hb0 : Below w.heap.size w (w.alloc (.cells #[.int .i64 2, .int .i64 3, .int .i64 5, .int .i64 7, .int .i64 11, .int .i64 13, .int .i64 17, .int .i64 19, .int .i64 23, .int .i64 29, .int .i64 31] 3)) := (Below.refl _ _).alloc (Nat.le_refl _) _
  unfold ordP
  generalize n % 11 = r at *
  have hr : r = 0 ∨ r = 1 ∨ r = 2 ∨ r = 3 ∨ r = 4 ∨ r = 5 ∨ r = 6 ∨ r = 7 ∨ r = 8 ∨ r = 9 ∨ r = 10 := by omega
  rcases hr with rfl | rfl | rfl | rfl | rfl | rfl | rfl | rfl | rfl | rfl | rfl
  all_goals
    clear h0 h1
    go_enter Try.func35, Try.ntmps35
    go_wp2_with (go_at_call 26; refine (hf _).mono ?_; rintro e w' ⟨rfl, rfl⟩)
    go_ret
    exact ⟨rfl, hb0⟩

theorem ordP_prime (n : Int) : primeB (ordP n) = true := by
  have h0 := Int.emod_nonneg n (show (11 : Int) ≠ 0 by omega)
  have h1 := Int.emod_lt_of_pos n (show (0 : Int) < 11 by omega)
  unfold ordP
  generalize n % 11 = r at *
  have hr : r = 0 ∨ r = 1 ∨ r = 2 ∨ r = 3 ∨ r = 4 ∨ r = 5 ∨ r = 6 ∨ r = 7 ∨ r = 8 ∨ r = 9 ∨ r = 10 := by omega
  rcases hr with rfl | rfl | rfl | rfl | rfl | rfl | rfl | rfl | rfl | rfl | rfl <;> rfl
end Go.Proofs.Ytneliejncfncdaa
