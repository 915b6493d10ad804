/- Texts Dfb Dfc Dfd Dfe in one. -/
import Derived.Test.YtobpacebpiabcaaDoorPkDf
import Derived.Test.YtobpacebpiabcaaDoorPkDe
namespace Go.Proofs.YtobpacebpiabcaaDoor
open Go.RowKit Go.Lib
end Go.Proofs.YtobpacebpiabcaaDoor

namespace Go.Proofs.YtobpacebpiabcaaDoor
open Go.RowKit Go.Lib
end Go.Proofs.YtobpacebpiabcaaDoor

namespace Go.Proofs.YtobpacebpiabcaaDoor
open Go.RowKit Go.Lib
end Go.Proofs.YtobpacebpiabcaaDoor

namespace Go.Proofs.YtobpacebpiabcaaDoor
open Go.RowKit Go.Lib
end Go.Proofs.YtobpacebpiabcaaDoor
