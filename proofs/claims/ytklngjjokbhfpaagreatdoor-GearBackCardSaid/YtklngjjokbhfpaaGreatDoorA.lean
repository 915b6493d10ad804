/- gear's size, gcd. -/
import Derived.Test.YtklngjjokbhfpaaGreatDoorRows
import Derived.WalkKit
import Derived.WalkSpells
import Derived.WalkLawsBesides
import Derived.BigQuiet
import Derived.Deep.QuietTactic
import Derived.Lib.Hide
import Derived.IntWalk
namespace Go.Proofs.YtklngjjokbhfpaaGreatDoor
open Go.RowKit

theorem ret_int {k : IntKind} {a b : Int} (h : a = b) : Ending.returned (.int k a) = .returned (.int k b) := by rw [h]
theorem ret_bool {a b : Bool} (h : a = b) : Ending.returned (.bool a) = .returned (.bool b) := by rw [h]
/-- A number that an int holds. -/
def I64 (v : Int) : Prop := -9223372036854775808 ≤ v ∧ v ≤ 9223372036854775807
theorem u64_in (n : Int) (h : 0 ≤ n ∧ n ≤ 18446744073709551615) : IntKind.u64.wrap n = n := by rw [IntKind.wrap_u64]; omega
theorem u64_neg (n : Int) (h : -9223372036854775808 ≤ n ∧ n < 0) : IntKind.u64.wrap (-(IntKind.u64.wrap n)) = -n := by rw [IntKind.wrap_u64, IntKind.wrap_u64]; omega

set_option maxHeartbeats 400000 in
theorem size_any (n : Int) (w : World) (hn : I64 n) : Calls Tryz.prog 30 #[.int .i64 n] w fun e w' => e = .returned (.int .u64 n.natAbs) ∧ w' = w := by
  obtain ⟨h1, h2⟩ := hn
  by_cases hneg : n < 0
  · have e1 := u64_neg n ⟨h1, hneg⟩
    have e2 : ((n.natAbs : Nat) : Int) = -n := by omega
    have E2 := Lib.hid e2
    clear e2
    go_enter Tryz.func30, Tryz.ntmps30
    go_wp2
    go_ret
    exact ⟨ret_int E2.out.symm, rfl⟩
  · have e1 := u64_in n ⟨by omega, by omega⟩
    have e2 : ((n.natAbs : Nat) : Int) = n := by omega
    have E2 := Lib.hid e2
    clear e2
    go_enter Tryz.func30, Tryz.ntmps30
    go_wp2
    go_ret
    exact ⟨ret_int E2.out.symm, rfl⟩

set_option maxRecDepth 100000 in
set_option maxHeartbeats 800000 in
theorem gcd_any (a b : Nat) (w : World) (ha : a ≤ 4611686018427387904) (hb : b ≤ 4611686018427387904) :
    Calls Tryz.prog 31 #[.int .u64 a, .int .u64 b] w fun e w' => e = .returned (.int .u64 (Nat.gcd a b : Nat)) ∧ ∃ z, w' = w.drewN z := by
  go_enter Tryz.func31, Tryz.ntmps31
  go_wp2
  go_loopw [0, 1] (fun x y wr => ∃ a' b' : Nat, x = .int .u64 a' ∧ y = .int .u64 b' ∧ Nat.gcd a' b' = Nat.gcd a b ∧ a' ≤ 4611686018427387904 ∧ b' ≤ 4611686018427387904 ∧ ∃ z, wr = w.drewN z) (fun _ y _ => (intOf y).toNat)
  case atStart => exact ⟨a, b, rfl, rfl, rfl, ha, hb, 0, rfl⟩
  case round =>
    obtain ⟨x, y, rfl, rfl, hg, hx, hy, z, rfl⟩ := hrel
    have HG := Lib.hid hg
    clear hg ha hb
    by_cases h0 : 0 < y
    · have hm : x % y < y := Nat.mod_lt _ h0
      have hgs : Nat.gcd y (x % y) = Nat.gcd x y := by rw [Nat.gcd_comm x y, Nat.gcd_rec y x, Nat.gcd_comm]
      have HS := Lib.hid hgs
      clear hgs
      go_wp2
      go_quiet (fail)
      go_wp2
      go_roundw
      case rel => exact ⟨y, x % y, rfl, by go_num, by rw [HS.out, HG.out], hy, by omega, z + nq, World.drewN_drewN _ _ _⟩
      case measure => simp [intOf]; omega
    · obtain rfl : y = 0 := by omega
      have hgz : Nat.gcd x 0 = x := Nat.gcd_zero_right x
      have HZ := Lib.hid hgz
      clear hgz
      go_wp2
      go_ret
      exact ⟨ret_int (by rw [← HG.out, HZ.out]), _, rfl⟩
end Go.Proofs.YtklngjjokbhfpaaGreatDoor
