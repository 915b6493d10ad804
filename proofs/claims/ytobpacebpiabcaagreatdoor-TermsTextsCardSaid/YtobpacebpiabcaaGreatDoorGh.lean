/- TermsShorter: what the law computes (printed by expand.py). -/
import Derived.Test.YtobpacebpiabcaaGreatDoorGc
import Derived.Test.YtobpacebpiabcaaGreatDoorPkGd
import Derived.Test.YtobpacebpiabcaaGreatDoorGg
import Derived.Test.YtobpacebpiabcaaGreatDoorPkDm
import Derived.Test.YtobpacebpiabcaaGreatDoorPkDm
import Derived.Test.YtobpacebpiabcaaGreatDoorCk
import Derived.Test.YtobpacebpiabcaaGreatDoorPkBl
import Derived.Test.YtobpacebpiabcaaGreatDoorPkBl
namespace Go.Proofs.YtobpacebpiabcaaGreatDoor
open Go.RowKit Go.Lib

theorem keeps_mem {l : List (List UInt8)} : ∀ x, x ∈ Lib.compact l → x ∈ l := fun x hx => by
  unfold Lib.compact Lib.compactUpTo at hx
  obtain ⟨j, hj, rfl⟩ := List.mem_map.1 hx
  have hj2 := List.mem_range.1 (List.mem_filter.1 hj).1
  have : l.toArray[j]! = l[j] := by simp [getElem!_pos, hj2]
  rw [this]
  exact List.getElem_mem hj2
theorem mem_keeps {l : List (List UInt8)} : ∀ (j : Nat) (hj : j < l.length), l[j] ∈ Lib.compact l
  | 0, hj => by
    unfold Lib.compact Lib.compactUpTo
    refine List.mem_map.2 ⟨0, List.mem_filter.2 ⟨List.mem_range.2 hj, by simp [Lib.keeps]⟩, by simp [getElem!_pos, hj]⟩
  | j + 1, hj => by
    by_cases h : l[j + 1] = l[j]
    · rw [h]; exact mem_keeps j (by omega)
    · unfold Lib.compact Lib.compactUpTo
      refine List.mem_map.2 ⟨j + 1, List.mem_filter.2 ⟨List.mem_range.2 hj, ?_⟩, by simp [getElem!_pos, hj]⟩
      simp only [Lib.keeps, decide_eq_true_eq]
      right
      have e1 : l.toArray[j + 1]! = l[j + 1] := by simp [getElem!_pos, hj]
      have e2 : l.toArray[j + 1 - 1]! = l[j] := by simp [getElem!_pos, show j < l.length by omega]
      rw [e1, e2]; exact h
theorem marksM_mem (t : Tm) (x : List UInt8) : x ∈ marksM t ↔ x ∈ t.fo.names := by
  unfold marksM sortM
  constructor
  · intro h
    exact List.mem_mergeSort.1 (keeps_mem x h)
  · intro h
    have h2 : x ∈ t.fo.names.mergeSort (fun x y => decide (x ≤ y)) := List.mem_mergeSort.2 h
    obtain ⟨j, hj, e⟩ := List.getElem_of_mem h2
    rw [← e]
    exact mem_keeps j hj
end Go.Proofs.YtobpacebpiabcaaGreatDoor
