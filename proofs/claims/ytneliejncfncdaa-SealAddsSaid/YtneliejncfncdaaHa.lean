/- Words for memory: rows of booleans. Plain lemmas. -/
import Derived.Test.YtneliejncfncdaaW
namespace Go.Proofs.Ytneliejncfncdaa
open Go.RowKit

/-- A slice of booleans. -/
def Bools (w : World) (A : Option Addr) (xs : List Bool) : Prop := At w A (xs.map Value.bool)
theorem Bools.below {w w' : World} {A : Option Addr} {xs : List Bool} (h : Bools w A xs) (hb : Below w.heap.size w w') : Bools w' A xs := At.below h hb
theorem Bools.get {w : World} {A : Option Addr} {xs : List Bool} (h : Bools w A xs) {k : Nat} (hk : k < xs.length) :
    ∃ b off, A = some ⟨b, off, none⟩ ∧ b < w.heap.size ∧ w.cell? ⟨b, off + k, none⟩ = some (.bool (xs[k])) := by
  rcases h with h | ⟨b, off, hA, hb, hc⟩
  · have : xs = [] := by simpa using h
    subst this
    simp at hk
  · exact ⟨b, off, hA, hb, hc k _ (by simp [hk])⟩

/-- A row of booleans that the call owns. -/
def OwnB (w : World) (base : Nat) (v : Value) (n : Nat) (xs : List Bool) : Prop := w.ownsRow base 4 1 v n (xs.map Value.bool)
section
variable {w : World} {base n g cap : Nat} {v : Value} {xs : List Bool}
theorem OwnB.out (h : OwnB w base v n xs) : w.ownsRow base 4 1 v n (xs.map Value.bool) := h
theorem OwnB.len (h : OwnB w base v n xs) : xs.length = n := by simpa using h.1
theorem OwnB.lt (h : OwnB w base v n xs) : ∀ k, v.ownBlock = some k → base ≤ k ∧ k < w.heap.size := World.ownsRow.lt h
theorem OwnB.keep {w' : World} (h : OwnB w base v n xs) (hk : ∀ k, v.ownBlock = some k → w'.heap[k]? = w.heap[k]?) : OwnB w' base v n xs := by
  refine ⟨h.1, ?_⟩
  rcases h.2 with h' | ⟨g, cap, cur, h1, h2, h3, h4⟩
  · exact .inl h'
  · exact .inr ⟨g, cap, cur, h1, h2, (hk g (by rw [h1]; rfl)).trans h3, h4⟩
theorem OwnB.below {w' : World} (h : OwnB w base v n xs) (hb : Below w.heap.size w w') : OwnB w' base v n xs := h.keep fun k hk => hb.block k (h.lt k hk).2
theorem OwnB.get (h : OwnB w base (.slice (some ⟨g, 0, none⟩) n cap) n xs) {k : Nat} (hk : k < xs.length) : w.cell? ⟨g, k, none⟩ = some (.bool (xs[k])) := by
  have hl : xs.length = n := by simpa using h.1
  rw [World.ownsRow.cellAt h k (by omega)]
  simp [show k < xs.length by omega]
theorem OwnB.frozen (h : OwnB w base (.slice (some ⟨g, 0, none⟩) n cap) n xs) (k : Nat) : w.frozen? ⟨g, k, none⟩ = false := World.ownsRow.frozenAt h k
theorem OwnB.set (h : OwnB w base (.slice (some ⟨g, 0, none⟩) n cap) n xs) (k : Nat) (y : Bool) :
    OwnB (w.setCell ⟨g, k, none⟩ (.bool y)) base (.slice (some ⟨g, 0, none⟩) n cap) n (xs.set k y) := by
  have := (World.ownsRow.stored h k (.bool y)).1
  rwa [← List.map_set] at this
end
end Go.Proofs.Ytneliejncfncdaa
