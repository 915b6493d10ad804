/- The law's alike: its contract (printed by expand.py). -/
import Derived.Test.YtobpacebpiabcaaGreatDoorCi
import Derived.Test.YtobpacebpiabcaaGreatDoorCj
import Derived.Test.YtobpacebpiabcaaGreatDoorPkDg
namespace Go.Proofs.YtobpacebpiabcaaGreatDoor
open Go.RowKit Go.Lib

theorem BoolO.form {w : World} {base : Nat} {v : Value} {l : List Bool} (h : BoolO w base v l) : ∃ A c, v = .slice A l.length c := by
  obtain ⟨A, c, h1, _⟩ := h.boolV
  exact ⟨A, c, h1⟩
end Go.Proofs.YtobpacebpiabcaaGreatDoor
