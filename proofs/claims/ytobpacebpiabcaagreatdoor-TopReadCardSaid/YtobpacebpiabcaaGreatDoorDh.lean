/- The law's right: it makes a valid term of any nodes (printed by expand.py). -/
import Derived.Test.YtobpacebpiabcaaGreatDoorPkBs
import Derived.Test.YtobpacebpiabcaaGreatDoorPkBv
import Derived.Test.YtobpacebpiabcaaGreatDoorPkDg
namespace Go.Proofs.YtobpacebpiabcaaGreatDoor
open Go.RowKit Go.Lib

theorem and_le (x : Int) (m : Nat) (hm : m < 4611686018427387904) : ∃ r : Nat, bits .and .i64 x (m : Int) = (r : Int) ∧ r ≤ m := by
  have h2 : (BitVec.ofInt 64 (m : Int)).toNat = m := by
    rw [BitVec.ofInt_natCast, BitVec.toNat_ofNat]; exact Nat.mod_eq_of_lt (by omega)
  have hle : (BitVec.ofInt 64 x).toNat &&& m ≤ m := Nat.and_le_right
  refine ⟨(BitVec.ofInt 64 x).toNat &&& m, ?_, hle⟩
  show IntKind.i64.wrap ((BitVec.ofInt 64 x &&& BitVec.ofInt 64 (m : Int)).toNat : Int) = _
  rw [BitVec.toNat_and, h2, IntKind.wrap_i64]
  omega
end Go.Proofs.YtobpacebpiabcaaGreatDoor
