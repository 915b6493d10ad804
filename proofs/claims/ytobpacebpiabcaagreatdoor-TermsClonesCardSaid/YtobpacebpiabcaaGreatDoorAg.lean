/- What monitors keep, and what they say at the next event: plain law. -/
import Derived.Test.YtobpacebpiabcaaGreatDoorPkAd
namespace Go.Proofs.YtobpacebpiabcaaGreatDoor
open Go.Lib

/-- Kinds that keep whether something was so. -/
def isMem (k : Int) : Bool := decide (k = 6) || decide (k = 7) || decide (k = 8) || decide (k = 9)
/-- What a node keeps ahead of event i. -/
def memN (k : Int) (l : List (Nat → Bool)) : Nat → Bool
  | 0 => decide (k = 8)
  | i + 1 => if k = 6 then l.getD 0 noS i else if k = 7 then onceS (l.getD 0 noS) i else if k = 8 then alwS (l.getD 0 noS) i else sinS (l.getD 0 noS) (l.getD 1 noS) i
/-- What a node of memory keeps next, of what it kept and what its kids say. -/
def nextM (k : Int) (o x y : Bool) : Bool := if k = 6 then x else if k = 7 then o || x else if k = 8 then o && x else y || o && x
theorem mem_next (k : Int) (l : List (Nat → Bool)) (h : isMem k = true) : ∀ i, memN k l (i + 1) = nextM k (memN k l i) (l.getD 0 noS i) (l.getD 1 noS i) := by
  intro i
  have hk : k = 6 ∨ k = 7 ∨ k = 8 ∨ k = 9 := by simpa [isMem, or_assoc] using h
  rcases hk with e | e | e | e <;> subst e <;> cases i with
    | zero => simp [memN, nextM, onceS, alwS, sinS]
    | succ i => simp [memN, nextM, onceS, alwS, sinS, Bool.or_comm, Bool.and_comm]
theorem mem_out (log : List Ev) (k : Int) (nm : List UInt8) (n : Int) (l : List (Nat → Bool)) (h : isMem k = true) (i : Nat) :
    nodeS log k nm n l i = if k = 6 then memN k l i else nextM k (memN k l i) (l.getD 0 noS i) (l.getD 1 noS i) := by
  have hk : k = 6 ∨ k = 7 ∨ k = 8 ∨ k = 9 := by simpa [isMem, or_assoc] using h
  rcases hk with e | e | e | e <;> subst e <;> cases i with
    | zero => simp [memN, nextM, onceS, alwS, sinS, nodeS, prevS]
    | succ i => simp [memN, nextM, onceS, alwS, sinS, nodeS, prevS, Bool.or_comm, Bool.and_comm]
theorem memN_congr {k : Int} {l m : List (Nat → Bool)} {i : Nat} (h : ∀ q j, j < i → l.getD q noS j = m.getD q noS j) : memN k l i = memN k m i := by
  cases i with
  | zero => rfl
  | succ i =>
    have h0 : ∀ j ≤ i, l.getD 0 noS j = m.getD 0 noS j := fun j hj => h 0 j (by omega)
    have h1 : ∀ j ≤ i, l.getD 1 noS j = m.getD 1 noS j := fun j hj => h 1 j (by omega)
    rw [memN, memN, h0 i (Nat.le_refl _), onceS_congr h0, alwS_congr h0, sinS_congr h0 h1]
namespace Fo
/-- The nodes of the kinds prev, once, always and since. -/
def past : Fo → Nat
  | nil => 0
  | cons k _ _ ks r => (if isMem k = true then 1 else 0) + past ks + past r
/-- What the nodes of the past keep ahead of event i, a node ahead of those below it. -/
def kept (log : List Ev) (i : Nat) : Fo → List Bool
  | nil => []
  | cons k _ _ ks r => (if isMem k = true then [memN k (saysF log ks) i] else []) ++ kept log i ks ++ kept log i r
end Fo
end Go.Proofs.YtobpacebpiabcaaGreatDoor
