/- The layings of slices.Sort and slices.Compact at the second seat (printed by lay-plain.mjs). -/
import Derived.Shelf.Slices.In.CompactS
import Derived.Shelf.Slices.In.SortAlone
import Derived.Test.YtobpacebpiabcaaGreatDoorProg
namespace Go.Proofs
open Go.Shelf
end Go.Proofs
