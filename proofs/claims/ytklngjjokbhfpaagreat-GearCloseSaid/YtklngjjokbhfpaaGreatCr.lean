/- is; ref.round. -/
import Derived.Test.YtklngjjokbhfpaaGreatCj
import Derived.Deep.DeepCutAuto
namespace Go.Proofs.YtklngjjokbhfpaaGreat
open Go.RowKit
end Go.Proofs.YtklngjjokbhfpaaGreat
