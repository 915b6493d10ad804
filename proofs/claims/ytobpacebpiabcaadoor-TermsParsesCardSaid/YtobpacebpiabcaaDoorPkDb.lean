/- Texts Db Dc in one. -/
import Derived.Test.YtobpacebpiabcaaDoorPkDa
import Derived.Test.YtobpacebpiabcaaDoorBr
import Derived.Test.YtobpacebpiabcaaDoorPkBo
namespace Go.Proofs.YtobpacebpiabcaaDoor
open Go.ChangeShapes Go.WideShapes Go.ChangeAt Go.RowKit Go.Joins

end Go.Proofs.YtobpacebpiabcaaDoor

namespace Go.Proofs.YtobpacebpiabcaaDoor
open Go.ChangeShapes Go.WideShapes Go.ChangeAt Go.RowKit Go.Joins

end Go.Proofs.YtobpacebpiabcaaDoor
