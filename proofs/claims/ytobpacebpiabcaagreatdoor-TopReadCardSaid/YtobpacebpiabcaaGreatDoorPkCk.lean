/- Texts Ck Cm in one. -/
import Derived.Test.YtobpacebpiabcaaGreatDoorPkCi
import Derived.Test.YtobpacebpiabcaaGreatDoorPkCe
import Derived.Test.YtobpacebpiabcaaGreatDoorPkBa
namespace Go.Proofs.YtobpacebpiabcaaGreatDoor
open Go.RowKit Go.Lib

end Go.Proofs.YtobpacebpiabcaaGreatDoor

namespace Go.Proofs.YtobpacebpiabcaaGreatDoor
open Go.RowKit Go.Lib

/-- A monitor that New did not make. -/
def NoMon (w : World) (m : Value) : Prop := (∃ p, m = .pointer p) ∧ ∀ w', Below w.heap.size w w' → Calls Tryz.prog 53 #[m] w' (RetV (.bool false) w')
theorem NoMon.below {w w' : World} {m : Value} (h : NoMon w m) (hb : Below w.heap.size w w') : NoMon w' m := ⟨h.1, fun W hW => h.2 W (hb.trans (hW.mono hb.size))⟩
end Go.Proofs.YtobpacebpiabcaaGreatDoor
