/- The reference's Unlike, of two lists of one length. -/
import Derived.Test.YtneliejncfncdaaX
import Derived.Test.YtneliejncfncdaaHa
namespace Go.Proofs.Ytneliejncfncdaa
open Go.RowKit

def unlN (a b : List Bool) : Nat → Nat
  | 0 => 0
  | k + 1 => unlN a b k + (if a.getD k false = b.getD k false then 0 else 1)
theorem unlN_le (a b : List Bool) : ∀ k, unlN a b k ≤ k
  | 0 => Nat.le_refl _
  | k + 1 => by
    have := unlN_le a b k
    rw [unlN]
    split <;> omega

set_option maxHeartbeats 800000 in
theorem refUnlike_any (A B : Option Addr) (c d n : Nat) (a b : List Bool) (w : World) (hA : Bools w A a) (hB : Bools w B b) (hn : a.length = n) (hm : b.length = n) (hb : n ≤ 1000000) :
    Calls Try.prog 55 #[.slice A n c, .slice B n d] w fun e w' => e = .returned (.int .i64 (unlN a b n : Nat)) ∧ ∃ z, w' = w.drewN z := by
  have HN := Lib.hid hn
  have HM := Lib.hid hm
  clear hn hm
  go_enter Try.func55, Try.ntmps55
  go_wp2
  go_loopw [5, 6] (fun s i wr => ∃ k : Nat, k ≤ n ∧ i = .int .i64 k ∧ s = .int .i64 (unlN a b k : Nat) ∧ ∃ nd, wr = w.drewN nd) (fun _ i _ => n - (intOf i).toNat)
  case atStart => exact ⟨0, by omega, rfl, rfl, 0, rfl⟩
  case round =>
    obtain ⟨k, hk, rfl, rfl, nd, rfl⟩ := hrel
    have hfl := unlN_le a b k
    by_cases hlt : k < n
    · obtain ⟨b1, o1, rfl, hl1, hc1⟩ := hA.get (k := k) (by rw [HN.out]; exact hlt)
      obtain ⟨b2, o2, rfl, hl2, hc2⟩ := hB.get (k := k) (by rw [HM.out]; exact hlt)
      have hf : unlN a b (k + 1) = unlN a b k + (if a[k]'(by rw [HN.out]; exact hlt) = b[k]'(by rw [HM.out]; exact hlt) then 0 else 1) := by
        rw [unlN]
        simp [List.getD, show k < a.length by rw [HN.out]; exact hlt, show k < b.length by rw [HM.out]; exact hlt]
      generalize a[k]'(by rw [HN.out]; exact hlt) = x at *
      generalize b[k]'(by rw [HM.out]; exact hlt) = y at *
      by_cases hxy : x = y
      · rw [if_pos hxy] at hf
        subst hxy
        have HF := Lib.hid hf
        clear hf
        generalize unlN a b k = s at *
        go_wp2
        go_quiet (fail)
        go_wp2
        go_roundw
        case rel => exact ⟨k + 1, by omega, by go_num, by rw [HF.out]; rfl, _, rfl⟩
        case measure => simp [intOf]; omega
      · rw [if_neg hxy] at hf
        have hb1 : (x == y) = false := by simpa using hxy
        have hb2 : (x != y) = true := by simpa using hxy
        have HF := Lib.hid hf
        clear hf
        generalize unlN a b k = s at *
        go_wp2
        go_quiet (fail)
        go_wp2
        go_roundw
        case rel => exact ⟨k + 1, by omega, by go_num, by rw [HF.out]; go_num, _, rfl⟩
        case measure => simp [intOf]; omega
    · obtain rfl : k = n := by omega
      go_wp2
      go_ret
      exact ⟨rfl, _, rfl⟩
end Go.Proofs.Ytneliejncfncdaa
