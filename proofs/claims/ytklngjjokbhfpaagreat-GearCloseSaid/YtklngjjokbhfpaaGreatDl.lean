/- ref's Train of a train that is one (printed by gendl.py). -/
import Derived.Test.YtklngjjokbhfpaaGreatCj
import Derived.Test.YtklngjjokbhfpaaGreatVo
namespace Go.Proofs.YtklngjjokbhfpaaGreat
open Go.RowKit
end Go.Proofs.YtklngjjokbhfpaaGreat
