/- ref.Meet; the walk of GearMeets (printed by genme.py). -/
import Derived.Test.YtklngjjokbhfpaaVo
import Derived.Test.YtklngjjokbhfpaaV
namespace Go.Proofs.Ytklngjjokbhfpaa
open Go.RowKit

theorem meet_dvd (a w p : Nat) (hp : 0 < p) : a * w % p = 0 ↔ p / Nat.gcd w p ∣ a := by
  have hg : 0 < Nat.gcd w p := Nat.gcd_pos_of_pos_right _ hp
  rw [← Nat.dvd_iff_mod_eq_zero]
  have hc : Nat.Coprime (w / Nat.gcd w p) (p / Nat.gcd w p) := Nat.coprime_div_gcd_div_gcd hg
  have hw : w = Nat.gcd w p * (w / Nat.gcd w p) := (Nat.mul_div_cancel' (Nat.gcd_dvd_left w p)).symm
  have hpp : p = Nat.gcd w p * (p / Nat.gcd w p) := (Nat.mul_div_cancel' (Nat.gcd_dvd_right w p)).symm
  generalize Nat.gcd w p = g at *
  generalize w / g = w1 at *
  generalize p / g = p1 at *
  subst hw hpp
  rw [show a * (g * w1) = g * (a * w1) by rw [Nat.mul_left_comm], Nat.mul_dvd_mul_iff_left hg]
  constructor
  · intro h; exact Nat.Coprime.dvd_of_dvd_mul_right hc.symm h
  · intro h; exact Nat.dvd_trans h (Nat.dvd_mul_right _ _)
theorem meet_end (w p : Nat) (hp : 0 < p) : p / Nat.gcd w p * w / p = w / Nat.gcd w p := by
  have hg : 0 < Nat.gcd w p := Nat.gcd_pos_of_pos_right _ hp
  have hw : w = Nat.gcd w p * (w / Nat.gcd w p) := (Nat.mul_div_cancel' (Nat.gcd_dvd_left w p)).symm
  have hpp : p = Nat.gcd w p * (p / Nat.gcd w p) := (Nat.mul_div_cancel' (Nat.gcd_dvd_right w p)).symm
  generalize Nat.gcd w p = g at *
  generalize w / g = w1 at *
  generalize p / g = p1 at *
  subst hw
  rw [show p1 * (g * w1) = p * w1 by rw [hpp, Nat.mul_left_comm, Nat.mul_assoc], Nat.mul_div_cancel_left _ hp]

set_option maxRecDepth 100000 in
set_option maxHeartbeats 1600000 in
theorem refMeet_any (w p : Nat) (W : World) (hw : 1 ≤ w ∧ w ≤ 200) (hp : 1 ≤ p ∧ p ≤ 200) :
    Calls Try.prog 20 #[.int .i64 w, .int .i64 p] W fun e W' => e = .returned (.tuple #[.int .i64 (p / Nat.gcd w p : Nat), .int .i64 (w / Nat.gcd w p : Nat)]) ∧ ∃ z, W' = W.drewN z := by
  obtain ⟨hw1, hw2⟩ := hw
  obtain ⟨hp1, hp2⟩ := hp
  have hg : 0 < Nat.gcd w p := Nat.gcd_pos_of_pos_right _ (by omega)
  have hd := fun a => meet_dvd a w p (by omega)
  have he := meet_end w p (by omega)
  have hq1 : 1 ≤ p / Nat.gcd w p := Nat.div_pos (Nat.gcd_le_right _ (by omega)) hg
  have hq2 : p / Nat.gcd w p ≤ 200 := Nat.le_trans (Nat.div_le_self _ _) hp2
  have HD := Lib.hid hd
  have HE := Lib.hid he
  clear hd he
  generalize p / Nat.gcd w p = m at *
  generalize w / Nat.gcd w p = n at *
  have p0 : ¬ (p : Int) = 0 := by omega
  go_enter Try.func20, Try.ntmps20
  go_wp2
  go_loopw [6] (fun i wr => ∃ a : Nat, 1 ≤ a ∧ a ≤ m ∧ i = .int .i64 a ∧ W = wr) (fun i _ => m - (intOf i).toNat)
  case atStart => exact ⟨1, Nat.le_refl _, hq1, rfl, rfl⟩
  case round =>
    obtain ⟨a, ha1, ha2, rfl, rfl⟩ := hrel
    have haw : a * w ≤ 200 * 200 := Nat.mul_le_mul (by omega) hw2
    have e1 : (a : Int) * (w : Int) = ((a * w : Nat) : Int) := by rw [Int.natCast_mul]
    have u1 : IntKind.i64.wrap ((a : Int) * (w : Int)) = (a : Int) * w := IntWalk.i64_in _ (by omega)
    have e2 : Int.tmod ((a : Int) * (w : Int)) p = (((a * w) % p : Nat) : Int) := by rw [e1, Int.tmod_eq_emod_of_nonneg (by omega)]; rfl
    have u2 : IntKind.i64.wrap (((a * w) % p : Nat) : Int) = (((a * w) % p : Nat) : Int) := IntWalk.i64_in _ (by have := Nat.mod_lt (a * w) (show 0 < p by omega); omega)
    have ha := HD.out a
    by_cases hz : a * w % p = 0
    · have hm : a = m := by
        have := Nat.le_of_dvd (by omega) (ha.1 hz)
        omega
      subst hm
      have e3 : Int.tdiv ((a : Int) * (w : Int)) p = (n : Int) := by rw [e1, Int.tdiv_eq_ediv_of_nonneg (by omega), ← HE.out]; rfl
      have hn : n ≤ 40000 := by rw [← HE.out]; exact Nat.le_trans (Nat.div_le_self _ _) haw
      have u3 : IntKind.i64.wrap (n : Int) = n := IntWalk.i64_in _ (by clear u1 u2 e1 e2; omega)
      have b1 : ((((a * w) % p : Nat) : Int) != 0) = false := by rw [hz]; rfl
      rw [hz] at e2 u2
      clear ha hz e1
      go_wp2
      go_quiet (fail)
      go_wp2
      refine bodyPost_ret (v := .tuple #[.int .i64 a, .int .i64 n]) (by simp [results, Try.results20, go_sem]) rfl ⟨rfl, _, rfl⟩
    · have hm : a < m := by
        rcases Nat.lt_or_ge a m with h | h
        · exact h
        · have : a = m := by omega
          exact absurd (ha.2 (by rw [this]; exact Nat.dvd_refl _)) hz
      have b1 : ((((a * w) % p : Nat) : Int) != 0) = true := by
        have h9 : ((a * w % p : Nat) : Int) ≠ 0 := fun h => hz (by clear u1 u2 e1 e2; omega)
        simpa using h9
      generalize (a * w) % p = r at *
      clear ha hz e1
      go_wp2
      go_roundw
      case rel => exact ⟨a + 1, by omega, by omega, by go_num, by trivial⟩
      case measure => simp [intOf]; omega

set_option maxRecDepth 100000 in
set_option maxHeartbeats 1600000 in
theorem gearMeets_any (a b : Int) (w : World) : Calls Try.prog 6 #[.int .i64 a, .int .i64 b] w (RetV (.bool true) w) := by
  have cm := meet_any a b w
  have cl := fun z => (lives_any (w.drewN z)).mono fun e w' h => RetW.of h
  by_cases ha : 1 ≤ a ∧ a ≤ 200
  · by_cases hb : 1 ≤ b ∧ b ≤ 200
    · obtain ⟨m, rfl⟩ : ∃ m : Nat, a = m := ⟨a.toNat, by omega⟩
      obtain ⟨n, rfl⟩ : ∃ n : Nat, b = n := ⟨b.toNat, by omega⟩
      have cr := fun z => refMeet_any m n (w.drewN z) ⟨by omega, by omega⟩ ⟨by omega, by omega⟩
      rw [meetR, if_pos ⟨ha, hb⟩] at cm
      rw [show (n : Int) / ((Nat.gcd (m : Int).toNat (n : Int).toNat : Nat) : Int) = ((n / Nat.gcd m n : Nat) : Int) by simp, show (m : Int) / ((Nat.gcd (m : Int).toNat (n : Int).toNat : Nat) : Int) = ((m / Nat.gcd m n : Nat) : Int) by simp] at cm
      have d1 : decide ((m : Int) < 1) = false := decide_eq_false (by omega)
      have d2 : decide (200 < (m : Int)) = false := decide_eq_false (by omega)
      have d3 : decide ((n : Int) < 1) = false := decide_eq_false (by omega)
      have d4 : decide (200 < (n : Int)) = false := decide_eq_false (by omega)
      generalize n / Nat.gcd m n = x at *
      generalize m / Nat.gcd m n = y at *
      clear ha hb
      go_enter Try.func6, Try.ntmps6
      go_wp2_with fail
      refine cm.mono ?_
      rintro e W1 ⟨rfl, z, rfl⟩
      clear cm
      go_wp2_with fail
      refine (cr _).mono ?_
      rintro e W2 ⟨rfl, z2, rfl⟩
      clear cr
      rw [World.drewN_drewN]
      go_wp2_with fail
      refine (cl _).mono ?_
      rintro e W3 ⟨v, rfl, rfl, h3⟩
      have H3 := Lib.hid h3
      clear cl h3
      go_wp2
      go_ret
      exact ⟨rfl, (below_drewN' (Below.refl _ w) _).trans H3.out⟩
    · have hbad : meetR a b = .tuple #[.int .i64 0, .int .i64 0, .int .i64 1] := by rw [meetR, if_neg (fun h => hb h.2)]
      rw [hbad] at cm
      have d1 : decide (a < 1) = false := decide_eq_false (by omega)
      have d2 : decide (200 < a) = false := decide_eq_false (by omega)
      by_cases h3 : b < 1
      · have d3 : decide (b < 1) = true := decide_eq_true h3
        clear hbad ha hb h3
        go_enter Try.func6, Try.ntmps6
        go_wp2_with fail
        refine cm.mono ?_
        rintro e W1 ⟨rfl, z, rfl⟩
        clear cm
        go_wp2_with fail
        refine (cl _).mono ?_
        rintro e W3 ⟨v, rfl, rfl, h3⟩
        have H3 := Lib.hid h3
        clear cl h3
        go_wp2
        go_ret
        exact ⟨rfl, (below_drewN' (Below.refl _ w) _).trans H3.out⟩
      · have d3 : decide (b < 1) = false := decide_eq_false h3
        have d4 : decide (200 < b) = true := decide_eq_true (by omega)
        clear hbad ha hb h3
        go_enter Try.func6, Try.ntmps6
        go_wp2_with fail
        refine cm.mono ?_
        rintro e W1 ⟨rfl, z, rfl⟩
        clear cm
        go_wp2_with fail
        refine (cl _).mono ?_
        rintro e W3 ⟨v, rfl, rfl, h3⟩
        have H3 := Lib.hid h3
        clear cl h3
        go_wp2
        go_ret
        exact ⟨rfl, (below_drewN' (Below.refl _ w) _).trans H3.out⟩
  · have hbad : meetR a b = .tuple #[.int .i64 0, .int .i64 0, .int .i64 1] := by rw [meetR, if_neg (fun h => ha h.1)]
    rw [hbad] at cm
    by_cases h1 : a < 1
    · have d1 : decide (a < 1) = true := decide_eq_true h1
      clear hbad ha h1
      go_enter Try.func6, Try.ntmps6
      go_wp2_with fail
      refine cm.mono ?_
      rintro e W1 ⟨rfl, z, rfl⟩
      clear cm
      go_wp2_with fail
      refine (cl _).mono ?_
      rintro e W3 ⟨v, rfl, rfl, h3⟩
      have H3 := Lib.hid h3
      clear cl h3
      go_wp2
      go_ret
      exact ⟨rfl, (below_drewN' (Below.refl _ w) _).trans H3.out⟩
    · have d1 : decide (a < 1) = false := decide_eq_false h1
      have d2 : decide (200 < a) = true := decide_eq_true (by omega)
      clear hbad ha h1
      go_enter Try.func6, Try.ntmps6
      go_wp2_with fail
      refine cm.mono ?_
      rintro e W1 ⟨rfl, z, rfl⟩
      clear cm
      go_wp2_with fail
      refine (cl _).mono ?_
      rintro e W3 ⟨v, rfl, rfl, h3⟩
      have H3 := Lib.hid h3
      clear cl h3
      go_wp2
      go_ret
      exact ⟨rfl, (below_drewN' (Below.refl _ w) _).trans H3.out⟩

end Go.Proofs.Ytklngjjokbhfpaa
