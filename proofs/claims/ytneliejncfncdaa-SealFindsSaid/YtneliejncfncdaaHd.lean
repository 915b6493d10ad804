/- The law's wets, of two lists that are the same. -/
import Derived.Test.YtneliejncfncdaaHc
namespace Go.Proofs.Ytneliejncfncdaa
open Go.RowKit

theorem unlN_self (a : List Bool) : ∀ k, unlN a a k = 0
  | 0 => rfl
  | k + 1 => by rw [unlN, unlN_self a k]; simp

theorem wets_same (A B : Option Addr) (c d n : Nat) (a : List Bool) (w : World) (hA : Bools w A a) (hB : Bools w B a) (hn : a.length = n) (hb : n ≤ 1000000) :
    Calls Try.prog 50 #[.slice A n c, .slice B n d] w fun e w' => e = .returned (.bool true) ∧ ∃ z, w' = w.drewN z := by
  have c55 := refUnlike_any A B c d n a a w hA hB hn hn hb
  rw [unlN_self] at c55
  go_enter Try.func50, Try.ntmps50
  go_wp2_with fail
  refine c55.mono ?_
  rintro e w' ⟨rfl, z, rfl⟩
  go_wp2
  go_ret
  exact ⟨rfl, z, rfl⟩
end Go.Proofs.Ytneliejncfncdaa
