/- Texts Dd Dw in one. -/
import Derived.Test.YtobpacebpiabcaaGreatDoorCi
import Derived.Test.YtobpacebpiabcaaGreatDoorPkDfb
import Derived.Test.YtobpacebpiabcaaGreatDoorCk
import Derived.Test.YtobpacebpiabcaaGreatDoorPkBs
import Derived.Test.YtobpacebpiabcaaGreatDoorPkBl
namespace Go.Proofs.YtobpacebpiabcaaGreatDoor
open Go.RowKit Go.Lib

end Go.Proofs.YtobpacebpiabcaaGreatDoor

namespace Go.Proofs.YtobpacebpiabcaaGreatDoor
open Go.RowKit Go.Lib

theorem RetWatch.no {t : Tm} {log : List Ev} {w : World} {e : Ending} {w' : World} (h : RetWatch t log w e w') (hn : (t.ok && logB log) = false) : e = .returned (.tuple #[.slice none 0 0, .int .i64 1]) ∧ Below w.heap.size w w' := by
  rcases h with ⟨h1, h2, _⟩ | ⟨_, h1, h2⟩
  · rw [h1, h2] at hn; cases hn
  · exact ⟨h1, h2⟩
theorem RetWatch.yes {t : Tm} {log : List Ev} {w : World} {e : Ending} {w' : World} (h : RetWatch t log w e w') (hn : (t.ok && logB log) = true) : ∃ v, e = .returned (.tuple #[v, .int .i64 0]) ∧ BoolO w' w.heap.size v (t.watch log) ∧ Below w.heap.size w w' := by
  rcases h with ⟨_, _, h⟩ | ⟨h, _⟩
  · exact h
  · rw [h] at hn; cases hn
theorem ok_shp2 {t : Tm} (h : t.ok = true) : t.fo.shp = true := by
  unfold Tm.ok at h
  rw [Bool.and_eq_true] at h
  exact h.1
end Go.Proofs.YtobpacebpiabcaaGreatDoor
