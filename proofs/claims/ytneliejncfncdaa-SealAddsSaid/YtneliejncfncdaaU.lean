/- The law's lives. -/
import Derived.Test.YtneliejncfncdaaT
namespace Go.Proofs.Ytneliejncfncdaa
open Go.RowKit

/-- A new block of numbers. -/
theorem ints_new (w : World) (xs : List Int) (cs : Array Value) (h : cs.toList = xs.map (Value.int .i64)) : Ints (w.alloc (.cells cs 3)) (some ⟨w.heap.size, 0, none⟩) xs := by
  refine .inr ⟨w.heap.size, 0, rfl, by simp, fun j v hj => ?_⟩
  rw [← h] at hj
  rw [cell_of_row _ _ _ cs 3 (0, 0) (heap_alloc_new w _), Nat.zero_add]
  simpa using hj

theorem ints_newAt (w : World) (xs : List Int) (cs : Array Value) (B : Nat) (hB : w.heap.size = B) (h : cs.toList = xs.map (Value.int .i64)) : Ints (w.alloc (.cells cs 3)) (some ⟨B, 0, none⟩) xs := by
  subst hB
  exact ints_new w xs cs h

def Said (b : Bool) (w : World) (e : Ending) (w' : World) : Prop := e = .returned (.bool b) ∧ Below w.heap.size w w'

set_option maxRecDepth 100000 in
set_option maxHeartbeats 1600000 in
theorem lives_any (w : World) : Calls Try.prog 21 #[] w (Said true w) := by
  have c30 : ∀ W, Calls Try.prog 30 #[.int .i64 7, .int .i64 3] W fun e w' => e = .returned (.tuple #[.int .i64 5, .int .i64 0]) ∧ Below W.heap.size W w' := fun W => by
    have := inverse_ret 7 3 W
    rwa [invR_live] at this
  have c27 : ∀ W, Calls Try.prog 27 #[.agg #[.int .i64 3, .int .i64 2, .int .i64 3], .int .i64 5] W (Ret2 [2, 3, 7] 0 W) := fun W => by
    have := Members_any 3 2 3 5 W
    rwa [membersR_live] at this
  have c18 : ∀ (W : World) A c, Ints W A [1, 2, 0, 4] → Calls Try.prog 18 #[.int .i64 5, .int .i64 2, .slice A 4 c] W (Ret3 [1, 1] 1 0 W) := fun W A c h => by
    have := read_ret 5 2 A c [1, 2, 0, 4] W h (by simp)
    rwa [readR_live] at this
  have c23 : ∀ (W : World) A B c d, Ints W A [2, 3, 7] → Ints W B [2, 3, 7] → Calls Try.prog 23 #[.slice A 3 c, .slice B 3 d] W fun e w' => e = .returned (.bool true) ∧ ∃ k, w' = W.drewN k := fun W A B c d h1 h2 => by
    have := lawsame_any A B 3 3 c d [2, 3, 7] [2, 3, 7] W h1 h2 rfl rfl (by omega) (by omega)
    simpa using this
  have c23' : ∀ (W : World) A B c d, Ints W A [1, 1] → Ints W B [1, 1] → Calls Try.prog 23 #[.slice A 2 c, .slice B 2 d] W fun e w' => e = .returned (.bool true) ∧ ∃ k, w' = W.drewN k := fun W A B c d h1 h2 => by
    have := lawsame_any A B 2 2 c d [1, 1] [1, 1] W h1 h2 rfl rfl (by omega) (by omega)
    simpa using this
  go_enter Try.func21, Try.ntmps21
  go_wp2_with fail
  refine (c30 _).mono ?_
  rintro e w1 ⟨rfl, hb1⟩
  go_wp2_with fail
  refine (c27 _).mono ?_
  rintro e w2 ⟨v2, rfl, hs2, hb2⟩
  obtain ⟨A2, cc2, rfl, _, _, _, hI2⟩ := hs2
  go_wp2_with fail
  refine (c18 _ _ _ (ints_new _ _ _ rfl)).mono ?_
  rintro e w3 ⟨v3, rfl, hs3, _, hb3⟩
  obtain ⟨A3, cc3, rfl, _, _, _, hI3⟩ := hs3
  have hI2' := Ints.below hI2 (((Below.refl _ _).alloc (Nat.le_refl _) (.cells #[.int .i64 1, .int .i64 2, .int .i64 0, .int .i64 4] 3)).trans (hb3.mono (by simp)))
  go_wp2_with fail
  refine (c23 _ _ _ _ _ (hI2'.alloc _) (ints_new _ _ _ rfl)).mono ?_
  rintro e w4 ⟨rfl, k4, rfl⟩
  go_wp2_with fail
  refine (c23' _ _ _ _ _ ((((hI3.alloc _).drewN k4)).alloc _) (ints_newAt _ _ _ _ (by simp) rfl)).mono ?_
  rintro e w5 ⟨rfl, k5, rfl⟩
  have hbf : Below w.heap.size w w3 := hb1.trans ((hb2.mono hb1.size).trans (((Below.refl _ _).alloc (Nat.le_refl _) (.cells #[.int .i64 1, .int .i64 2, .int .i64 0, .int .i64 4] 3)).trans (hb3.mono (by simp)) |>.mono (by have := hb1.size; have := hb2.size; omega)))
  have hsz := hbf.size
  go_wp2
  go_ret
  exact ⟨rfl, ((((hbf.alloc hsz _).drewN k4).alloc (by simp; omega) _).drewN k5)⟩
end Go.Proofs.Ytneliejncfncdaa
