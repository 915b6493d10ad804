/- The walk of GearTurns. -/
import Derived.Test.YtklngjjokbhfpaaVo
import Derived.Test.YtklngjjokbhfpaaV
namespace Go.Proofs.Ytklngjjokbhfpaa
open Go.RowKit

theorem knob_tooth (x : Int) : ∃ (r : Int) (m : Nat), wrap64 (Int.tmod x 200 + 200) = r ∧ wrap64 (Int.tmod r 200 + 1) = m ∧ 1 ≤ m ∧ m ≤ 200 := by
  have h1 := Int.tmod_lt_of_pos x (show (0 : Int) < 200 by omega)
  have h2 : -200 < Int.tmod x 200 := by
    have := Int.lt_tmod_of_pos x (show (0 : Int) < 200 by omega)
    omega
  generalize Int.tmod x 200 = r at *
  have h3 := Int.tmod_lt_of_pos (r + 200) (show (0 : Int) < 200 by omega)
  have h4 := Int.tmod_nonneg 200 (show 0 ≤ r + 200 by omega)
  have e1 : wrap64 (r + 200) = r + 200 := IntWalk.wrap64_in _ (by omega)
  refine ⟨r + 200, (Int.tmod (r + 200) 200 + 1).toNat, e1, ?_, by omega, by omega⟩
  generalize Int.tmod (r + 200) 200 = s at *
  have e2 : wrap64 (s + 1) = s + 1 := IntWalk.wrap64_in _ (by omega)
  rw [e2]
  omega

theorem coprime_no {a b k : Nat} (h : Nat.gcd a b = 1) (hk : 2 ≤ k) : ¬ (a % k = 0 ∧ b % k = 0) := fun ⟨h1, h2⟩ => by
  have h3 : k ∣ Nat.gcd a b := Nat.dvd_gcd (Nat.dvd_of_mod_eq_zero h1) (Nat.dvd_of_mod_eq_zero h2)
  rw [h] at h3
  have := Nat.le_of_dvd (by omega) h3
  omega

set_option maxRecDepth 100000 in
set_option maxHeartbeats 1600000 in
theorem gearTurns_any (a b : Int) (w : World) : Calls Try.prog 7 #[.int .i64 a, .int .i64 b] w (RetV (.bool true) w) := by
  obtain ⟨r1, m, a1, a2, m1, m2⟩ := knob_tooth a
  obtain ⟨r2, n, b1, b2, n1, n2⟩ := knob_tooth b
  have cm := meet_any m n w
  have cm2 := fun z => meet_any n m (w.drewN z)
  rw [meetR, if_pos ⟨by omega, by omega⟩] at cm
  have hcm2 : meetR (n : Int) (m : Int) = .tuple #[.int .i64 (m / Nat.gcd m n : Nat), .int .i64 (n / Nat.gcd m n : Nat), .int .i64 0] := by
    rw [meetR, if_pos ⟨by omega, by omega⟩, Nat.gcd_comm]
    simp
  rw [hcm2] at cm2
  rw [show (n : Int) / ((Nat.gcd (m : Int).toNat (n : Int).toNat : Nat) : Int) = ((n / Nat.gcd m n : Nat) : Int) by simp, show (m : Int) / ((Nat.gcd (m : Int).toNat (n : Int).toNat : Nat) : Int) = ((m / Nat.gcd m n : Nat) : Int) by simp] at cm
  have cl := fun z => (lives_any (w.drewN z)).mono fun e w' h => RetW.of h
  have hg : 0 < Nat.gcd m n := Nat.gcd_pos_of_pos_right _ (by omega)
  have hco : Nat.gcd (m / Nat.gcd m n) (n / Nat.gcd m n) = 1 := Nat.coprime_div_gcd_div_gcd hg
  have x1 : 1 ≤ n / Nat.gcd m n := Nat.div_pos (Nat.gcd_le_right _ (by omega)) hg
  have x2 : n / Nat.gcd m n ≤ 200 := Nat.le_trans (Nat.div_le_self _ _) n2
  have y1 : 1 ≤ m / Nat.gcd m n := Nat.div_pos (Nat.gcd_le_left _ (by omega)) hg
  have y2 : m / Nat.gcd m n ≤ 200 := Nat.le_trans (Nat.div_le_self _ _) m2
  have hp : n / Nat.gcd m n * m = m / Nat.gcd m n * n := by
    have e1 := Nat.mul_div_cancel' (Nat.gcd_dvd_left m n)
    have e2 := Nat.mul_div_cancel' (Nat.gcd_dvd_right m n)
    generalize Nat.gcd m n = g at *
    generalize m / g = u at *
    generalize n / g = v at *
    subst e1 e2
    rw [Nat.mul_left_comm, Nat.mul_left_comm u, Nat.mul_comm u]
  clear hcm2 hg
  generalize n / Nat.gcd m n = x at *
  generalize m / Nat.gcd m n = y at *
  have p1 : x * m ≤ 200 * 200 := Nat.mul_le_mul x2 m2
  have p2 : y * n ≤ 200 * 200 := Nat.mul_le_mul y2 n2
  have q1 : IntKind.i64.wrap ((x : Int) * m) = ((x * m : Nat) : Int) := by rw [Int.natCast_mul]; exact IntWalk.i64_in _ (by rw [← Int.natCast_mul]; omega)
  have q2 : IntKind.i64.wrap ((y : Int) * n) = ((x * m : Nat) : Int) := by rw [hp, Int.natCast_mul]; exact IntWalk.i64_in _ (by rw [← Int.natCast_mul]; omega)
  generalize x * m = pr at *
  have d1 : decide ((x : Int) < 1) = false := decide_eq_false (by omega)
  have d2 : decide ((y : Int) < 1) = false := decide_eq_false (by omega)
  have HP := Lib.hid hp
  have HC := Lib.hid hco
  clear hp hco p1 p2
  go_enter Try.func7, Try.ntmps7
  go_wp2_with fail
  refine cm.mono ?_
  rintro e W1 ⟨rfl, z, rfl⟩
  clear cm
  go_wp2_with fail
  refine (cm2 _).mono ?_
  rintro e W2 ⟨rfl, z2, rfl⟩
  clear cm2
  rw [World.drewN_drewN]
  go_wp2_with fail
  refine (cl _).mono ?_
  rintro e W3 ⟨v, rfl, rfl, h3⟩
  have H3 := Lib.hid h3
  clear cl h3
  go_wp2
  go_loopw [11, 4] (fun i r wr => ∃ k : Nat, 2 ≤ k ∧ k ≤ 201 ∧ i = .int .i64 k ∧ r = .bool false ∧ W3 = wr) (fun i _ _ => 201 - (intOf i).toNat)
  case atStart => exact ⟨2, by omega, by omega, rfl, rfl, rfl⟩
  case round =>
    obtain ⟨k, k1, k2, rfl, rfl, rfl⟩ := hrel
    have k0 : ¬ (k : Int) = 0 := by omega
    by_cases hx : k ≤ x
    · by_cases hy : k ≤ y
      · have c1 : decide ((k : Int) ≤ x) = true := decide_eq_true (by omega)
        have c1n : decide (k ≤ x) = true := decide_eq_true (by omega)
        have c2 : decide ((k : Int) ≤ y) = true := decide_eq_true (by omega)
        have c2n : decide (k ≤ y) = true := decide_eq_true (by omega)
        have e1 : Int.tmod (x : Int) k = ((x % k : Nat) : Int) := by rw [Int.tmod_eq_emod_of_nonneg (by omega)]; rfl
        have e2 : Int.tmod (y : Int) k = ((y % k : Nat) : Int) := by rw [Int.tmod_eq_emod_of_nonneg (by omega)]; rfl
        have k3 : k ≤ 200 := by omega
        have l1 := Nat.mod_lt x (show 0 < k by omega)
        have l2 := Nat.mod_lt y (show 0 < k by omega)
        have u1 : IntKind.i64.wrap ((x % k : Nat) : Int) = ((x % k : Nat) : Int) := IntWalk.i64_in _ (by omega)
        have u2 : IntKind.i64.wrap ((y % k : Nat) : Int) = ((y % k : Nat) : Int) := IntWalk.i64_in _ (by omega)
        have hno : ¬ (x % k = 0 ∧ y % k = 0) := fun h => coprime_no HC.out k1 ⟨h.2, h.1⟩
        generalize x % k = q1 at *
        generalize y % k = q2 at *
        by_cases z1 : q1 = 0
        · have g1 : (((0 : Nat) : Int) == 0) = true := by rfl
          have g2 : ((q2 : Int) == 0) = false := by
            have : ¬ q2 = 0 := fun h => hno ⟨z1, h⟩
            simpa using this
          subst z1
          clear hno hx hy
          go_wp2
          go_roundw
          case rel => exact ⟨k + 1, by omega, by omega, by go_num, rfl, by trivial⟩
          case measure => simp [intOf]; omega
        · have g1 : ((q1 : Int) == 0) = false := by simpa using z1
          clear hno hx hy z1
          go_wp2
          go_roundw
          case rel => exact ⟨k + 1, by omega, by omega, by go_num, rfl, by trivial⟩
          case measure => simp [intOf]; omega
      · have c1 : decide ((k : Int) ≤ x) = true := decide_eq_true (by omega)
        have c1n : decide (k ≤ x) = true := decide_eq_true (by omega)
        have c2 : decide ((k : Int) ≤ y) = false := decide_eq_false (by omega)
        have c2n : decide (k ≤ y) = false := decide_eq_false (by omega)
        clear hx hy
        go_wp2
        go_ret
        exact ⟨rfl, (below_drewN' (Below.refl _ w) _).trans H3.out⟩
    · have c1 : decide ((k : Int) ≤ x) = false := decide_eq_false (by omega)
      have c1n : decide (k ≤ x) = false := decide_eq_false (by omega)
      clear hx
      go_wp2
      go_ret
      exact ⟨rfl, (below_drewN' (Below.refl _ w) _).trans H3.out⟩
end Go.Proofs.Ytklngjjokbhfpaa
