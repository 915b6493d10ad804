/- The places of an item are below all places. -/
import Derived.Test.YtneliejncfncdaaHf
namespace Go.Proofs.Ytneliejncfncdaa
theorem members_bd {q item : Int} (hq : 2 ≤ q) (t n : Nat) {k : Nat} (hk : k < (membersM q item t n).length) : 0 ≤ (membersM q item t n)[k] ∧ (membersM q item t n)[k] < (n : Int) * q := by
  have hkn : k < n := by simpa [membersM, membersD_length] using hk
  have e : (membersM q item t n)[k] = (k : Int) * q + hv q k (digs q item t) := by simp [membersM, membersD]
  rw [e]
  have hb := hv_bd (q := q) (x := (k : Int)) (by omega) (digs q item t)
  have h1 : 0 ≤ (k : Int) * q := Int.mul_nonneg (by omega) (by omega)
  have h2 : ((k : Int) + 1) * q ≤ (n : Int) * q := Int.mul_le_mul_of_nonneg_right (by omega) (by omega)
  have h3 : ((k : Int) + 1) * q = (k : Int) * q + q := by grind
  omega
theorem membersM_length (q item : Int) (t n : Nat) : (membersM q item t n).length = n := by simp [membersM, membersD_length]
end Go.Proofs.Ytneliejncfncdaa
