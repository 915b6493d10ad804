/- The code's Wet, of good arguments. -/
import Derived.Test.YtneliejncfncdaaHg
import Derived.Test.YtneliejncfncdaaHe
import Derived.Test.YtneliejncfncdaaGb
namespace Go.Proofs.Ytneliejncfncdaa
open Go.RowKit

/-- A result of two: a list of booleans and an error. -/
def RetW (xs : List Bool) (n : Int) (w : World) (e : Ending) (w' : World) : Prop :=
  ∃ A c, e = .returned (.tuple #[.slice A xs.length c, .int .i64 n]) ∧ Bools w' A xs ∧ Below w.heap.size w w'

set_option maxRecDepth 100000 in
set_option maxHeartbeats 1600000 in
theorem Wet_bad (q t n : Int) (A : Option Addr) (c m : Nat) (l : List Int) (w : World) (hA : Ints w A l) (hm : l.length = m) (hb : m ≤ 1000000) (h : itemsM q t n = 0 ∨ rsB (itemsM q t n) (-1) l = false) :
    Calls Try.prog 42 #[pools q t n, .slice A m c] w (RetW [] 1 w) := by
  have hb0 : Below w.heap.size w (w.alloc (.cells #[.int .i64 q, .int .i64 t, .int .i64 n] 35)) := (Below.refl _ _).alloc (Nat.le_refl _) _
  generalize hI : itemsM q t n = I at *
  have c64 : ∀ W, Calls Try.prog 64 #[pools q t n] W fun e w' => e = .returned (.int .i64 I) ∧ Below W.heap.size W w' := fun W => by rw [← hI]; exact items_any q t n W
  clear hI
  by_cases h1 : I = 0
  · subst h1
    clear h
    go_enter Try.func42, Try.ntmps42
    go_wp2_with (go_at_call 64; refine (c64 _).mono ?_; rintro e w1 ⟨rfl, hb1⟩)
    go_ret2
    exact ⟨none, 0, rfl, .inl rfl, hb0.trans (hb1.mono (by simp))⟩
  · have hr : rsB I (-1) l = false := by rcases h with h | h; exact absurd h h1; exact h
    have hbI : (I == 0) = false := by simpa using h1
    have c73 : ∀ W, Ints W A l → Calls Try.prog 73 #[.slice A m c, .int .i64 I] W fun e w' => e = .returned (.bool false) ∧ W = w' := fun W hI => by
      have := (rising_any A c m l I W hI hm hb).mono fun e w' h => (⟨h.1, h.2.symm⟩ : e = .returned (.bool (rsB I (-1) l)) ∧ W = w')
      rwa [hr] at this
    go_enter Try.func42, Try.ntmps42
    go_wp2_with (first | (go_at_call 64; refine (c64 _).mono ?_; rintro e w1 ⟨rfl, hb1⟩) | (go_at_call 73; refine (c73 _ (hA.below (hb0.trans (hb1.mono (by simp))))).mono ?_; rintro e w' ⟨rfl, rfl⟩))
    go_ret2
    exact ⟨none, 0, rfl, .inl rfl, hb0.trans (hb1.mono (by simp))⟩
end Go.Proofs.Ytneliejncfncdaa
