import Derived.Test.YtbkgbkmpalbdpaaGreatDoorTa
namespace Go.Proofs.YtbkgbkmpalbdpaaGreatDoor
open Go
theorem tie_hd (os : _) (tape : _) : varsDone Tryz.prog 400 (varsId Tryz.prog) os tape = true := by kernel_rfl
end Go.Proofs.YtbkgbkmpalbdpaaGreatDoor
