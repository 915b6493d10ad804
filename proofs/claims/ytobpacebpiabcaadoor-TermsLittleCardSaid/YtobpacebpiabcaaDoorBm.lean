/- The document's shaped and Valid: contracts (printed by expand.py). -/
import Derived.Test.YtobpacebpiabcaaDoorBl
namespace Go.Proofs.YtobpacebpiabcaaDoor
open Go.RowKit Go.Lib

end Go.Proofs.YtobpacebpiabcaaDoor
