/- The document's Marks: its contract (printed by expand.py). -/
import Derived.Test.YtobpacebpiabcaaGreatDoorPkDm
import Derived.ArgAppend
import Derived.Laws.AppendOwnNone
import Derived.Deep.Onto
import Derived.Test.YtobpacebpiabcaaGreatDoorPkLex
namespace Go.Proofs.YtobpacebpiabcaaGreatDoor
open Go.RowKit Go.Lib
/-! The marks of a term, rising: plain. -/
end Go.Proofs.YtobpacebpiabcaaGreatDoor
