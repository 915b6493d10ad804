/- The document's Valid, the law's bad: contracts (printed by expand.py). -/
import Derived.Test.YtobpacebpiabcaaDoorBm
namespace Go.Proofs.YtobpacebpiabcaaDoor
open Go.RowKit Go.Lib

end Go.Proofs.YtobpacebpiabcaaDoor
