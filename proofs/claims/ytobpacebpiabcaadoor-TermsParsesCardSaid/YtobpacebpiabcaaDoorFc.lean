/- How the document's reader reads, way by way; its contract: plain lemmas. -/
import Derived.Test.YtobpacebpiabcaaDoorFa
import Derived.Test.YtobpacebpiabcaaDoorPkAd
import Derived.Test.YtobpacebpiabcaaDoorCe
namespace Go.Proofs.YtobpacebpiabcaaDoor
open Go.RowKit Go.Lib

def w3 (j : Nat) : List UInt8 := [sp ++ wAnd ++ sp, sp ++ wOr ++ sp, sp ++ wSince ++ sp].getD j []
def k3 (j : Nat) : Int := ([4, 5, 9] : List Int).getD j 0
def w4 (j : Nat) : List UInt8 := [wNot ++ sp, wPrev ++ sp, wOnce ++ sp, wAlways ++ sp].getD j []
def k4 (j : Nat) : Int := ([3, 6, 7, 8] : List Int).getD j 0
theorem two2_hit {s : List UInt8} {j : Nat} (hj : j < 3) (h : ∀ q, q < j → begB s (w3 q) = false) (hb : begB s (w3 j) = true) : two2 s = some (k3 j, s.drop (w3 j).length) := by
  have e : j = 0 ∨ j = 1 ∨ j = 2 := by omega
  unfold two2
  rcases e with rfl | rfl | rfl
  · rw [if_pos (show begB s (sp ++ wAnd ++ sp) = true from hb)]; rfl
  · rw [if_neg (by rw [show begB s (sp ++ wAnd ++ sp) = false from h 0 (by omega)]; decide), if_pos (show begB s (sp ++ wOr ++ sp) = true from hb)]; rfl
  · rw [if_neg (by rw [show begB s (sp ++ wAnd ++ sp) = false from h 0 (by omega)]; decide), if_neg (by rw [show begB s (sp ++ wOr ++ sp) = false from h 1 (by omega)]; decide), if_pos (show begB s (sp ++ wSince ++ sp) = true from hb)]; rfl
theorem two2_none {s : List UInt8} (h : ∀ q, q < 3 → begB s (w3 q) = false) : two2 s = none := by
  unfold two2
  rw [if_neg (by rw [show begB s (sp ++ wAnd ++ sp) = false from h 0 (by omega)]; decide), if_neg (by rw [show begB s (sp ++ wOr ++ sp) = false from h 1 (by omega)]; decide), if_neg (by rw [show begB s (sp ++ wSince ++ sp) = false from h 2 (by omega)]; decide)]
theorem one2_hit {s : List UInt8} {j : Nat} (hj : j < 4) (h : ∀ q, q < j → begB s (w4 q) = false) (hb : begB s (w4 j) = true) : one2 s = some (k4 j, s.drop (w4 j).length) := by
  have e : j = 0 ∨ j = 1 ∨ j = 2 ∨ j = 3 := by omega
  unfold one2
  rcases e with rfl | rfl | rfl | rfl
  · rw [if_pos (show begB s (wNot ++ sp) = true from hb)]; rfl
  · rw [if_neg (by rw [show begB s (wNot ++ sp) = false from h 0 (by omega)]; decide), if_pos (show begB s (wPrev ++ sp) = true from hb)]; rfl
  · rw [if_neg (by rw [show begB s (wNot ++ sp) = false from h 0 (by omega)]; decide), if_neg (by rw [show begB s (wPrev ++ sp) = false from h 1 (by omega)]; decide), if_pos (show begB s (wOnce ++ sp) = true from hb)]; rfl
  · rw [if_neg (by rw [show begB s (wNot ++ sp) = false from h 0 (by omega)]; decide), if_neg (by rw [show begB s (wPrev ++ sp) = false from h 1 (by omega)]; decide), if_neg (by rw [show begB s (wOnce ++ sp) = false from h 2 (by omega)]; decide), if_pos (show begB s (wAlways ++ sp) = true from hb)]; rfl
theorem one2_none4 {s : List UInt8} (h : ∀ q, q < 4 → begB s (w4 q) = false) : one2 s = none := by
  unfold one2
  rw [if_neg (by rw [show begB s (wNot ++ sp) = false from h 0 (by omega)]; decide), if_neg (by rw [show begB s (wPrev ++ sp) = false from h 1 (by omega)]; decide), if_neg (by rw [show begB s (wOnce ++ sp) = false from h 2 (by omega)]; decide), if_neg (by rw [show begB s (wAlways ++ sp) = false from h 3 (by omega)]; decide)]
theorem one2_no {s : List UInt8} (h : one2 s = none) : ∀ j, j < 4 → begB s (w4 j) = false := by
  intro j
  induction j using Nat.strongRecOn with
  | ind j ih =>
    intro hj
    cases hb : begB s (w4 j) with
    | false => rfl
    | true =>
      rw [one2_hit hj (fun q hq => ih q hq (by omega)) hb] at h
      cases h
section
variable {m : Nat} {s : List UInt8}
theorem rt_br0 (h : begB s [40] = true) (h1 : rt m (s.drop 1) = none) : rt (m + 1) s = none := by rw [rt, if_pos h, h1]
theorem rt_br1 {a : Tm} {rest : List UInt8} (h : begB s [40] = true) (h1 : rt m (s.drop 1) = some (a, rest)) (h2 : two2 rest = none) : rt (m + 1) s = none := by
  rw [rt, if_pos h, h1]; simp only [h2]
theorem rt_br2 {a : Tm} {rest r : List UInt8} {k : Int} (h : begB s [40] = true) (h1 : rt m (s.drop 1) = some (a, rest)) (h2 : two2 rest = some (k, r)) (h3 : rt m r = none) : rt (m + 1) s = none := by
  rw [rt, if_pos h, h1]; simp only [h2, h3]
theorem rt_br3 {a b : Tm} {rest r left : List UInt8} {k : Int} (h : begB s [40] = true) (h1 : rt m (s.drop 1) = some (a, rest)) (h2 : two2 rest = some (k, r)) (h3 : rt m r = some (b, left)) (h4 : begB left [41] = false) : rt (m + 1) s = none := by
  rw [rt, if_pos h, h1]; simp only [h2, h3, h4, Bool.false_eq_true, if_false]
theorem rt_one0 {r : List UInt8} {k : Int} (h : begB s [40] = false) (h1 : one2 s = some (k, r)) (h2 : rt m r = none) : rt (m + 1) s = none := by
  rw [rt, if_neg (by rw [h]; decide), h1]; simp only [h2]
theorem rt_within0 (h : begB s [40] = false) (h1 : one2 s = none) (h2 : begB s (wWithin ++ sp) = true) (h3 : begB (digs 8 0 (s.drop 7)).2 sp = false) : rt (m + 1) s = none := by
  rw [rt, if_neg (by rw [h]; decide), h1]; simp only [h2, h3, Bool.false_eq_true, if_true, if_false]
theorem rt_within1 (h : begB s [40] = false) (h1 : one2 s = none) (h2 : begB s (wWithin ++ sp) = true) (h3 : begB (digs 8 0 (s.drop 7)).2 sp = true) (h4 : rt m ((digs 8 0 (s.drop 7)).2.drop 1) = none) : rt (m + 1) s = none := by
  rw [rt, if_neg (by rw [h]; decide), h1]; simp only [h2, h3, h4, if_true]
end
/-- What ref's term returns. -/
def RetRT (m : Nat) (s : List UInt8) (w : World) (e : Ending) (w' : World) : Prop :=
  (∃ t rest v, rt m s = some (t, rest) ∧ e = .returned (.tuple #[v, .string ⟨rest.toArray⟩, .bool true]) ∧ TmV (fun b => w.heap.size ≤ b) w' v t ∧ Below w.heap.size w w') ∨
  (∃ (k : Int) (nm : List UInt8) (n : Int) (A : Option Addr) (q c : Nat) (r : List UInt8), rt m s = none ∧ e = .returned (.tuple #[.agg #[.int .i64 k, .string ⟨nm.toArray⟩, .int .i64 n, .slice A q c], .string ⟨r.toArray⟩, .bool false]) ∧ Below w.heap.size w w')
def RTermOk (M : Nat) : Prop := ∀ (m : Nat) (s : List UInt8) (L : Int) (w : World), m < M → m ≤ 1000 → s.length ≤ 1000000 → L = (m : Int) → Calls Tryd.prog 49 #[.string ⟨s.toArray⟩, .int .i64 L] w (RetRT m s w)

/-! What is left is not longer. -/
theorem two2_len {s r : List UInt8} {k : Int} (h : two2 s = some (k, r)) : r.length ≤ s.length := by
  unfold two2 at h
  repeat' split at h
  all_goals (cases h <;> (rw [List.length_drop]; omega))
theorem one2_len {s r : List UInt8} {k : Int} (h : one2 s = some (k, r)) : r.length ≤ s.length := by
  unfold one2 at h
  repeat' split at h
  all_goals (cases h <;> (rw [List.length_drop]; omega))
theorem digs_len : ∀ (q : Nat) (n : Int) (s : List UInt8), (digs q n s).2.length ≤ s.length
  | 0, _, s => Nat.le_refl _
  | _ + 1, _, [] => Nat.le_refl _
  | q + 1, n, c :: s => by
    have := digs_len q (10 * n + ((c.toNat : Int) - 48)) s
    rw [digs]
    split
    · rw [List.length_cons]; omega
    · exact Nat.le_refl _
theorem rt_len : ∀ (m : Nat) (s : List UInt8) (t : Tm) (rest : List UInt8), rt m s = some (t, rest) → rest.length ≤ s.length
  | 0, s, t, rest, h => by rw [rt] at h; cases h
  | m + 1, s, t, rest, h => by
    cases hb : begB s [40] with
    | true =>
      cases h1 : rt m (s.drop 1) with
      | none => rw [rt_br0 hb h1] at h; cases h
      | some x =>
        obtain ⟨a, r1⟩ := x
        have l1 := rt_len m _ _ _ h1
        rw [List.length_drop] at l1
        cases h2 : two2 r1 with
        | none => rw [rt_br1 hb h1 h2] at h; cases h
        | some y =>
          obtain ⟨k, r2⟩ := y
          have l2 := two2_len h2
          cases h3 : rt m r2 with
          | none => rw [rt_br2 hb h1 h2 h3] at h; cases h
          | some z =>
            obtain ⟨b, left⟩ := z
            have l3 := rt_len m _ _ _ h3
            cases h4 : begB left [41] with
            | false => rw [rt_br3 hb h1 h2 h3 h4] at h; cases h
            | true =>
              rw [rt_br hb h1 h2 h3 h4] at h
              injection h with h
              injection h with _ h
              rw [← h, List.length_drop]; omega
    | false =>
      cases h1 : one2 s with
      | some y =>
        obtain ⟨k, r⟩ := y
        have l1 := one2_len h1
        cases h2 : rt m r with
        | none => rw [rt_one0 hb h1 h2] at h; cases h
        | some x =>
          obtain ⟨a, r1⟩ := x
          have l2 := rt_len m _ _ _ h2
          rw [rt_one hb h1 h2] at h
          injection h with h
          injection h with _ h
          rw [← h]; omega
      | none =>
        cases h2 : begB s (wWithin ++ sp) with
        | true =>
          have l1 := digs_len 8 0 (s.drop 7)
          rw [List.length_drop] at l1
          cases h3 : begB (digs 8 0 (s.drop 7)).2 sp with
          | false => rw [rt_within0 hb h1 h2 h3] at h; cases h
          | true =>
            cases h4 : rt m ((digs 8 0 (s.drop 7)).2.drop 1) with
            | none => rw [rt_within1 hb h1 h2 h3 h4] at h; cases h
            | some x =>
              obtain ⟨a, r1⟩ := x
              have l2 := rt_len m _ _ _ h4
              rw [List.length_drop] at l2
              rw [rt_within hb h1 h2 h3 h4] at h
              injection h with h
              injection h with _ h
              rw [← h]; omega
        | false =>
          rw [rt_word hb h1 h2] at h
          repeat' split at h
          all_goals (cases h <;> (rw [List.length_drop]; omega))
end Go.Proofs.YtobpacebpiabcaaDoor
