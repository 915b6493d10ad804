/- What holds goes by: plain lemmas. -/
import Derived.Test.YtobpacebpiabcaaDoorCg
import Derived.Test.YtobpacebpiabcaaDoorBu
import Derived.Deep.Onto
namespace Go.Proofs.YtobpacebpiabcaaDoor
open Go.RowKit Go.Lib

/-- A row of booleans. -/
def RetBoolO (l : List Bool) (w : World) (e : Ending) (w' : World) : Prop := ∃ v, e = .returned v ∧ BoolO w' w.heap.size v l ∧ Below w.heap.size w w'
def DaysOk (log : List Ev) : Prop := ∀ i, 0 ≤ dayAt log i ∧ dayAt log i ≤ 1000000
/-- What the first j kids say. -/
def kidRows (log : List Ev) (ks : Fo) (j : Nat) : List (List Bool) := (List.range j).map fun i => (ks.get i).watch log
theorem kidRows_succ (log : List Ev) (ks : Fo) (j : Nat) : kidRows log ks (j + 1) = kidRows log ks j ++ [(ks.get j).watch log] := by
  unfold kidRows
  rw [List.range_succ, List.map_append]; rfl
theorem kidRows_len (log : List Ev) (ks : Fo) (j : Nat) : (kidRows log ks j).length = j := by simp [kidRows]
theorem kidRows_get (log : List Ev) (ks : Fo) (j i : Nat) (h : i < j) : (kidRows log ks j).getD i [] = (ks.get i).watch log := by
  simp [kidRows, h]
theorem watch_len (t : Tm) (log : List Ev) : (t.watch log).length = log.length := by simp [Tm.watch]
theorem watch_get (t : Tm) (log : List Ev) (i : Nat) (h : i < log.length) : (t.watch log).getD i false = t.says log i := by
  simp [Tm.watch, h]
theorem saysF_get : ∀ (log : List Ev) (f : Fo) (i : Nat), i < f.len → (saysF log f).getD i noS = (f.get i).says log
  | _, .nil, _, h => by simp [Fo.len] at h
  | log, .cons k nm n ks r, 0, _ => by cases r <;> rfl
  | log, .cons k nm n ks r, i + 1, h => by
    have := saysF_get log r i (by simpa [Fo.len] using h)
    simpa [saysF, Fo.get] using this
/-- The day that within keeps ahead of event j. -/
def dayS (k : Int) (a : Nat → Bool) (log : List Ev) (j : Nat) : Int := if k = 10 then lastD a log j else -1
theorem lastD_bd {log : List Ev} (hd : DaysOk log) (a : Nat → Bool) : ∀ j, -1 ≤ lastD a log j ∧ lastD a log j ≤ 1000000
  | 0 => by simp only [lastD]; omega
  | j + 1 => by
    have h1 := lastD_bd hd a j
    have h2 := hd j
    simp only [lastD]
    split <;> omega
theorem dayS_bd {log : List Ev} (hd : DaysOk log) (k : Int) (a : Nat → Bool) (j : Nat) : -1 ≤ dayS k a log j ∧ dayS k a log j ≤ 1000000 := by
  unfold dayS
  split
  · exact lastD_bd hd a j
  · omega
theorem once_pos (a : Nat → Bool) (j : Nat) (h : 0 < j) : onceS a j = (onceS a (j - 1) || a j) := by
  obtain ⟨i, rfl⟩ : ∃ i, j = i + 1 := ⟨j - 1, by omega⟩
  rfl
theorem alw_pos (a : Nat → Bool) (j : Nat) (h : 0 < j) : alwS a j = (alwS a (j - 1) && a j) := by
  obtain ⟨i, rfl⟩ : ∃ i, j = i + 1 := ⟨j - 1, by omega⟩
  rfl
theorem sin_pos (a b : Nat → Bool) (j : Nat) (h : 0 < j) : sinS a b j = (b j || sinS a b (j - 1) && a j) := by
  obtain ⟨i, rfl⟩ : ∃ i, j = i + 1 := ⟨j - 1, by omega⟩
  rfl
theorem prev_pos (a : Nat → Bool) (j : Nat) (h : 0 < j) : prevS a j = a (j - 1) := by
  obtain ⟨i, rfl⟩ : ∃ i, j = i + 1 := ⟨j - 1, by omega⟩
  rfl
theorem dayS_succ (k : Int) (a : Nat → Bool) (log : List Ev) (j : Nat) : dayS k a log (j + 1) = if k = 10 then (if a j = true then dayAt log j else dayS k a log j) else -1 := by
  unfold dayS
  by_cases h : k = 10
  · rw [if_pos h, if_pos h, if_pos h, lastD]
  · rw [if_neg h, if_neg h]
theorem dayS_no {k : Int} (h : k ≠ 10) (a : Nat → Bool) (log : List Ev) (j : Nat) : dayS k a log j = -1 := by rw [dayS, if_neg h]
theorem dayS_yes (a : Nat → Bool) (log : List Ev) (j : Nat) : dayS 10 a log j = lastD a log j := by rw [dayS, if_pos rfl]
theorem says_def (k : Int) (nm : List UInt8) (n : Int) (ks : Fo) (log : List Ev) (j : Nat) : Tm.says (k, nm, n, ks) log j = nodeS log k nm n (saysF log ks) j := rfl
def nodeS2 (k : Int) (a b : Bool) : Bool := if k = 4 then a && b else a || b
theorem kd1 {nm : List UInt8} {n : Int} {c : Nat} (h : okN 1 nm n c = true) : c = 0 ∧ nm = [] ∧ n = 0 := by
  rcases kids_is h with ⟨_, r⟩ | ⟨e, _⟩ | ⟨e, _⟩ | ⟨e, _⟩ | ⟨e, _⟩
  · exact r
  all_goals omega
theorem kd2 {nm : List UInt8} {n : Int} {c : Nat} (h : okN 2 nm n c = true) : c = 0 ∧ n = 0 := by
  rcases kids_is h with ⟨e, _⟩ | ⟨_, r⟩ | ⟨e, _⟩ | ⟨e, _⟩ | ⟨e, _⟩
  · omega
  · exact ⟨r.1, r.2.2⟩
  all_goals omega
theorem kdA {k : Int} (hk : k = 3 ∨ k = 6 ∨ k = 7 ∨ k = 8) {nm : List UInt8} {n : Int} {c : Nat} (h : okN k nm n c = true) : c = 1 ∧ nm = [] ∧ n = 0 := by
  rcases kids_is h with ⟨e, _⟩ | ⟨e, _⟩ | ⟨_, r⟩ | ⟨e, _⟩ | ⟨e, _⟩
  · omega
  · omega
  · exact r
  all_goals omega
theorem kdW {nm : List UInt8} {n : Int} {c : Nat} (h : okN 10 nm n c = true) : c = 1 ∧ nm = [] ∧ 0 ≤ n ∧ n ≤ 1000000 := by
  rcases kids_is h with ⟨e, _⟩ | ⟨e, _⟩ | ⟨e, _⟩ | ⟨_, r⟩ | ⟨e, _⟩
  · omega
  · omega
  · omega
  · exact r
  · omega
theorem kdB {k : Int} (hk : k = 4 ∨ k = 5 ∨ k = 9) {nm : List UInt8} {n : Int} {c : Nat} (h : okN k nm n c = true) : c = 2 ∧ nm = [] ∧ n = 0 := by
  rcases kids_is h with ⟨e, _⟩ | ⟨e, _⟩ | ⟨e, _⟩ | ⟨e, _⟩ | ⟨_, r⟩
  · omega
  · omega
  · omega
  · omega
  · exact r
def HoldsOk (N : Nat) : Prop := ∀ (t : Tm) (S : Nat → Prop) (v u : Value) (log : List Ev) (w : World), t.2.2.2.cnt < N → TmV S w v t → t.fo.shp = true → EvV w u log → DaysOk log → log.length ≤ 1000 → Calls Tryd.prog 39 #[v, u] w (RetBoolO (t.watch log) w)
end Go.Proofs.YtobpacebpiabcaaDoor
