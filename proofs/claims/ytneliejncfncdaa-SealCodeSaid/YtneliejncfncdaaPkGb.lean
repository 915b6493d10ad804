/- Texts Gb in one. -/
import Derived.Test.YtneliejncfncdaaPkQ
namespace Go.Proofs.Ytneliejncfncdaa
open Go.RowKit

/-- Numbers rise, from above last on, and are below a limit. -/
def rsB (limit : Int) : Int → List Int → Bool
  | _, [] => true
  | last, n :: r => decide (last < n) && decide (n < limit) && rsB limit n r

set_option maxHeartbeats 800000 in
theorem rising_any (A : Option Addr) (c n : Nat) (l : List Int) (limit : Int) (w : World) (hA : Ints w A l) (hn : l.length = n) (hb : n ≤ 1000000) :
    Calls Try.prog 73 #[.slice A n c, .int .i64 limit] w fun e w' => e = .returned (.bool (rsB limit (-1) l)) ∧ w' = w := by
  have HN := Lib.hid hn
  clear hn
  go_enter Try.func73, Try.ntmps73
  go_wp2
  go_loop [5, 10] (fun s i => ∃ (k : Nat) (z : Int), k ≤ n ∧ i = .int .i64 k ∧ s = .int .i64 z ∧ rsB limit (-1) l = rsB limit z (l.drop k)) (fun _ i => n - (intOf i).toNat)
  case atStart => exact ⟨0, -1, by omega, rfl, rfl, rfl⟩
  case round =>
    obtain ⟨k, z, hk, rfl, rfl, hr⟩ := hrel
    by_cases hlt : k < n
    · obtain ⟨b, o, rfl, hl, hc⟩ := hA.get (k := k) (by rw [HN.out]; exact hlt)
      have hkl : k < l.length := by rw [HN.out]; exact hlt
      have hd : l.drop k = l[k] :: l.drop (k + 1) := (List.drop_eq_getElem_cons hkl)
      rw [hd] at hr
      generalize l[k] = x at *
      rw [rsB] at hr
      clear hd
      by_cases h1 : z < x
      · by_cases h2 : x < limit
        · rw [decide_eq_true h1, decide_eq_true h2, Bool.true_and, Bool.true_and] at hr
          have HR := Lib.hid hr
          have g1 : decide (x ≤ z) = false := decide_eq_false (by omega)
          have g2 : decide (limit ≤ x) = false := decide_eq_false (by omega)
          have g3 : ¬ x ≤ z := by omega
          have g4 : ¬ limit ≤ x := by omega
          clear hr
          go_wp2
          go_round
          case rel => exact ⟨k + 1, x, by omega, by go_num, rfl, HR.out⟩
          case measure => simp [intOf]; omega
        · rw [decide_eq_false h2, Bool.and_false, Bool.false_and] at hr
          have HR := Lib.hid hr
          have g1 : decide (x ≤ z) = false := decide_eq_false (by omega)
          have g2 : decide (limit ≤ x) = true := decide_eq_true (by omega)
          have g4 : limit ≤ x := by omega
          have g3 : ¬ x ≤ z := by omega
          clear hr
          go_wp2
          go_ret
          exact ⟨ret_bool HR.out.symm, rfl⟩
      · rw [decide_eq_false h1, Bool.false_and, Bool.false_and] at hr
        have HR := Lib.hid hr
        have g1 : decide (x ≤ z) = true := decide_eq_true (by omega)
        have g3 : x ≤ z := by omega
        clear hr
        go_wp2
        go_ret
        exact ⟨ret_bool HR.out.symm, rfl⟩
    · obtain rfl : k = n := by omega
      have hr2 : rsB limit (-1) l = true := by
        rw [hr, List.drop_eq_nil_of_le (by rw [HN.out]; omega)]; rfl
      have HR := Lib.hid hr2
      clear hr hr2
      go_wp2
      go_ret
      exact ⟨ret_bool HR.out.symm, rfl⟩
end Go.Proofs.Ytneliejncfncdaa
