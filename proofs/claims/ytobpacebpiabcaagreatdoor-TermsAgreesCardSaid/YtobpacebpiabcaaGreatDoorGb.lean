/- terms.short: its contract (printed by expand.py). -/
import Derived.Test.YtobpacebpiabcaaGreatDoorGa
namespace Go.Proofs.YtobpacebpiabcaaGreatDoor
open Go.RowKit Go.Lib
end Go.Proofs.YtobpacebpiabcaaGreatDoor
