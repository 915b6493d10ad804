/- wide's trim, size. -/
import Derived.Test.YtklngjjokbhfpaaB
import Derived.Test.YtklngjjokbhfpaaD
namespace Go.Proofs.Ytklngjjokbhfpaa
open Go.RowKit

set_option maxRecDepth 100000 in
set_option maxHeartbeats 800000 in
theorem trim_any (A : Option Addr) (n c : Nat) (xs : List Int) (w : World) (hA : Ints .u32 w A xs) (hn : xs.length = n) (hb : n ≤ 1000000) (hc : n ≤ c) (hm : c ≤ maxLen) :
    Calls Try.prog 101 #[.slice A n c] w fun e w' => e = .returned (.slice A (DG.trim xs).length c) ∧ w' = w := by
  have htl := DG.trim_length xs
  rw [hn] at htl
  have HT := Lib.hid htl
  have HN := Lib.hid hn
  clear htl hn
  unfold maxLen at hm
  go_enter Try.func101, Try.ntmps101
  go_wp2
  go_loop [0] (fun s => ∃ m : Nat, m ≤ n ∧ s = .slice A m c ∧ DG.trimN xs m = DG.trimN xs n) (fun s => match s with | .slice _ m _ => m | _ => 0)
  case atStart => exact ⟨n, Nat.le_refl _, rfl, rfl⟩
  case round =>
    obtain ⟨m, hmn, rfl, ht⟩ := hrel
    cases m with
    | zero =>
      have ht0 : DG.trimN xs n = 0 := by rw [← ht]; rfl
      have HZ := Lib.hid ht0
      clear ht ht0
      go_wp2
      go_ret
      exact ⟨by rw [HT.out, HZ.out]; rfl, rfl⟩
    | succ m =>
      obtain ⟨b, o, rfl, hbl, hcl⟩ := hA.get (k := m) (by rw [HN.out]; omega)
      have hg : xs.getD m 0 = xs[m]'(by rw [HN.out]; omega) := by simp [List.getD, show m < xs.length by rw [HN.out]; omega]
      have hs : DG.trimN xs (m + 1) = if xs.getD m 0 = 0 then DG.trimN xs m else m + 1 := rfl
      rw [hg] at hs
      generalize xs[m]'(by rw [HN.out]; omega) = x at *
      have i1 : ((m + 1 : Nat) : Int) - 1 = (m : Int) := by omega
      have i2 : (m : Int) + 1 - 1 = (m : Int) := by omega
      by_cases hx : x = 0
      · rw [if_pos hx] at hs
        have HS := Lib.hid (show DG.trimN xs m = DG.trimN xs n by rw [← hs]; exact ht)
        clear hs ht hg
        subst hx
        go_wp2
        go_round
        case rel => exact ⟨m, by omega, rfl, HS.out⟩
        case measure => simp
      · rw [if_neg hx] at hs
        have hb1 : (x == 0) = false := by simpa using hx
        have HS := Lib.hid (show DG.trimN xs n = m + 1 by rw [← ht]; exact hs)
        clear hs ht hg hx
        go_wp2
        go_ret
        exact ⟨by rw [HT.out, HS.out]; rfl, rfl⟩
end Go.Proofs.Ytklngjjokbhfpaa
