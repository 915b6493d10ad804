/- The law's helpers fold, order, elements, has. -/
import Derived.Test.YtneliejncfncdaaX
namespace Go.Proofs.Ytneliejncfncdaa
open Go.RowKit

theorem fold_any (v n : Int) (w : World) (hv : -9223372036854775808 ≤ v ∧ v ≤ 9223372036854775807) (hn : 1 ≤ n ∧ n ≤ 1000000) :
    Calls Try.prog 26 #[.int .i64 v, .int .i64 n] w fun e w' => e = .returned (.int .i64 (v % n)) ∧ w' = w := by
  obtain ⟨hv1, hv2⟩ := hv
  obtain ⟨hn1, hn2⟩ := hn
  have h1 : -n < v.tmod n := Int.lt_tmod_of_pos v (by omega)
  have h2 : v.tmod n < n := Int.tmod_lt_of_pos v (by omega)
  have hw : IntKind.i64.wrap (v.tmod n + n) = v.tmod n + n := IntWalk.i64_in _ (by omega)
  have hw0 : IntKind.i64.wrap (v.tmod n) = v.tmod n := IntWalk.i64_in _ (by omega)
  have h0 : 0 ≤ v.tmod n + n := by omega
  have e1 : (v.tmod n + n).tmod n = v % n := by
    rw [Int.tmod_eq_emod_of_nonneg h0, Int.tmod_def]
    rw [show v - n * v.tdiv n + n = v + n * (1 - v.tdiv n) by grind]
    simp
  have e2 : (v.tmod n + n) % n = v % n := by rw [← e1, Int.tmod_eq_emod_of_nonneg h0]
  have hn0 : ¬ n = 0 := by omega
  have E1 := Lib.hid e1
  have E2 := Lib.hid e2
  clear e1 e2
  go_enter Try.func26, Try.ntmps26
  go_wp2
  go_ret
  exact ⟨ret_int (by first | rw [E1.out] | rw [E2.out]), rfl⟩
end Go.Proofs.Ytneliejncfncdaa
