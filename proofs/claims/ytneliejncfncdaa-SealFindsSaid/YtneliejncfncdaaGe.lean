/- The reference's Strength, of valid pools. -/
import Derived.Test.YtneliejncfncdaaGd
namespace Go.Proofs.Ytneliejncfncdaa
open Go.RowKit

set_option maxRecDepth 100000 in
set_option maxHeartbeats 1600000 in
theorem refStrength_any (q t n e : Int) (w : World) (hq : 2 ≤ q ∧ q ≤ 31) (ht : 1 ≤ t ∧ t ≤ q) (hn : t ≤ n ∧ n ≤ q) (hP : q ^ t.toNat ≤ 1000) (he : 0 ≤ e ∧ e ≤ 100) :
    Calls Try.prog 49 #[pools q t n, .int .i64 e] w fun e' w' => e' = .returned (.int .i64 (strG (q ^ t.toNat) t n e)) ∧ Below w.heap.size w w' := by
  have hb0 : Below w.heap.size w (w.alloc (.cells #[.int .i64 q, .int .i64 t, .int .i64 n] 35)) := (Below.refl _ _).alloc (Nat.le_refl _) _
  obtain ⟨q1, q2⟩ := hq
  obtain ⟨t1, t2⟩ := ht
  obtain ⟨n1, n2⟩ := hn
  obtain ⟨e1, e2⟩ := he
  have c25 : ∀ W, Calls Try.prog 25 #[pools q t n] W (RetItems q t W) := fun W => refItems_any q t n W ⟨q1, q2⟩ ⟨t1, by omega⟩
  unfold strG
  have hw : IntKind.i64.wrap (2 * e) = 2 * e := IntWalk.i64_in _ (by omega)
  by_cases h4 : n ≤ 2 * e
  · rw [if_pos h4]
    go_enter Try.func49, Try.ntmps49
    go_wp2
    go_ret
    exact ⟨rfl, hb0⟩
  · rw [if_neg h4]
    have hb4 : decide (n ≤ 2 * e) = false := decide_eq_false h4
    by_cases h5 : t = 1
    · rw [if_pos h5]
      subst h5
      have HP := Lib.hid hP
      clear hP
      go_enter Try.func49, Try.ntmps49
      go_wp2_with fail
      refine (c25 _).mono ?_
      rintro e' w1 ⟨I, rfl, g1, g2, hb1⟩
      have g3 := Lib.hid (g1 HP.out)
      have hbf := hb0.trans (hb1.mono (by simp))
      clear g1 g2 c25
      go_wp2
      go_ret
      exact ⟨ret_int g3.out, hbf⟩
    · rw [if_neg h5]
      have hb5 : (t == 1) = false := by simpa using h5
      have ht0 : ¬ (t - 1 = 0) := by omega
      have hw1 : IntKind.i64.wrap (n - 1) = n - 1 := IntWalk.i64_in _ (by omega)
      have hw2 : IntKind.i64.wrap (n - 1 - 2 * e) = n - 1 - 2 * e := IntWalk.i64_in _ (by omega)
      have hw3 : IntKind.i64.wrap (t - 1) = t - 1 := IntWalk.i64_in _ (by omega)
      have d1 : 0 ≤ (n - 1 - 2 * e) / (t - 1) := Int.ediv_nonneg (by omega) (by omega)
      have d2 : (n - 1 - 2 * e) / (t - 1) ≤ n - 1 - 2 * e := Int.ediv_le_self _ (by omega)
      have d3 : (n - 1 - 2 * e).tdiv (t - 1) = (n - 1 - 2 * e) / (t - 1) := Int.tdiv_eq_ediv_of_nonneg (by omega)
      have hw4 : IntKind.i64.wrap ((n - 1 - 2 * e) / (t - 1)) = (n - 1 - 2 * e) / (t - 1) := IntWalk.i64_in _ (by omega)
      clear c25
      go_enter Try.func49, Try.ntmps49
      go_wp2
      go_ret
      exact ⟨rfl, hb0⟩
end Go.Proofs.Ytneliejncfncdaa
