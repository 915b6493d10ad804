/- The code's Check and Strength, the reference's Strength. -/
import Derived.Test.YtneliejncfncdaaGa
namespace Go.Proofs.Ytneliejncfncdaa
open Go.RowKit

set_option maxHeartbeats 800000 in
theorem Check_any (q t n : Int) (w : World) : Calls Try.prog 47 #[pools q t n] w fun e w' => e = .returned (.int .i64 (if itemsM q t n = 0 then 1 else 0)) ∧ Below w.heap.size w w' := by
  have hb0 : Below w.heap.size w (w.alloc (.cells #[.int .i64 q, .int .i64 t, .int .i64 n] 35)) := (Below.refl _ _).alloc (Nat.le_refl _) _
  generalize hI : itemsM q t n = I
  have c64 : ∀ W, Calls Try.prog 64 #[pools q t n] W fun e w' => e = .returned (.int .i64 I) ∧ Below W.heap.size W w' := fun W => by rw [← hI]; exact items_any q t n W
  clear hI
  by_cases h : I = 0
  · subst h
    rw [if_pos rfl]
    go_enter Try.func47, Try.ntmps47
    go_wp2_with (go_at_call 64; refine (c64 _).mono ?_; rintro e w1 ⟨rfl, hb1⟩)
    go_ret
    exact ⟨rfl, hb0.trans (hb1.mono (by simp))⟩
  · rw [if_neg h]
    have hb : (I == 0) = false := by simpa using h
    go_enter Try.func47, Try.ntmps47
    go_wp2_with (go_at_call 64; refine (c64 _).mono ?_; rintro e w1 ⟨rfl, hb1⟩)
    go_ret
    exact ⟨rfl, hb0.trans (hb1.mono (by simp))⟩

/-- Strength where the pools are valid. -/
def strG (I t n e : Int) : Int := if n ≤ 2 * e then -1 else if t = 1 then I else (n - 1 - 2 * e) / (t - 1)
/-- The code's Strength. -/
def strR (q t n e : Int) : Int × Int := if itemsM q t n = 0 ∨ e < 0 ∨ 100 < e then (0, 1) else (strG (itemsM q t n) t n e, 0)

set_option maxRecDepth 100000 in
set_option maxHeartbeats 1600000 in
theorem Strength_any (q t n e : Int) (w : World) : Calls Try.prog 45 #[pools q t n, .int .i64 e] w fun e' w' => e' = .returned (.tuple #[.int .i64 (strR q t n e).1, .int .i64 (strR q t n e).2]) ∧ Below w.heap.size w w' := by
  have hb0 : Below w.heap.size w (w.alloc (.cells #[.int .i64 q, .int .i64 t, .int .i64 n] 35)) := (Below.refl _ _).alloc (Nat.le_refl _) _
  have hv := fun h => items_valid (q := q) (t := t) (n := n) h
  have hp := fun h => prime_bd (q := q) h
  have hI0 : itemsM q t n = 0 ∨ 0 < itemsM q t n := by
    by_cases hc : primeB q = true ∧ 1 ≤ t ∧ t ≤ q ∧ t ≤ n ∧ n ≤ q ∧ q ^ t.toNat ≤ 1000
    · right
      rw [items_pow hc]
      have := hp hc.1
      have := pow_bd (q := q) (by omega) t.toNat
      omega
    · exact .inl (items_zero hc)
  unfold strR
  generalize hI : itemsM q t n = I at *
  have c64 : ∀ W, Calls Try.prog 64 #[pools q t n] W fun e w' => e = .returned (.int .i64 I) ∧ Below W.heap.size W w' := fun W => by rw [← hI]; exact items_any q t n W
  clear hI
  by_cases h1 : I = 0
  · subst h1
    rw [if_pos (.inl rfl)]
    clear hv hp hI0
    go_enter Try.func45, Try.ntmps45
    go_wp2_with (go_at_call 64; refine (c64 _).mono ?_; rintro e' w1 ⟨rfl, hb1⟩; have k1 := hb1.cell (p := ⟨w.heap.size, 1, none⟩) (by simp); have k2 := hb1.cell (p := ⟨w.heap.size, 2, none⟩) (by simp); simp [go_sem] at k1 k2; have hs1 := hb1.size; simp at hs1)
    go_ret2
    exact ⟨rfl, hb0.trans (hb1.mono (by simp))⟩
  · have hb : (I == 0) = false := by simpa using h1
    have hvv : primeB q = true ∧ 1 ≤ t ∧ t ≤ q ∧ t ≤ n ∧ n ≤ q := by
      have := hv (by omega)
      exact ⟨this.1, this.2.1, this.2.2.1, this.2.2.2.1, this.2.2.2.2.1⟩
    obtain ⟨v1, v2, v3, v4, v5⟩ := hvv
    have hpp := hp v1
    obtain ⟨p1, p2⟩ := hpp
    clear hv hp hI0 v1
    by_cases h2 : e < 0
    · rw [if_pos (.inr (.inl h2))]
      go_enter Try.func45, Try.ntmps45
      go_wp2_with (go_at_call 64; refine (c64 _).mono ?_; rintro e' w1 ⟨rfl, hb1⟩; have k1 := hb1.cell (p := ⟨w.heap.size, 1, none⟩) (by simp); have k2 := hb1.cell (p := ⟨w.heap.size, 2, none⟩) (by simp); simp [go_sem] at k1 k2; have hs1 := hb1.size; simp at hs1)
      go_ret2
      exact ⟨rfl, hb0.trans (hb1.mono (by simp))⟩
    · by_cases h3 : 100 < e
      · rw [if_pos (.inr (.inr h3))]
        go_enter Try.func45, Try.ntmps45
        go_wp2_with (go_at_call 64; refine (c64 _).mono ?_; rintro e' w1 ⟨rfl, hb1⟩; have k1 := hb1.cell (p := ⟨w.heap.size, 1, none⟩) (by simp); have k2 := hb1.cell (p := ⟨w.heap.size, 2, none⟩) (by simp); simp [go_sem] at k1 k2; have hs1 := hb1.size; simp at hs1)
        go_ret2
        exact ⟨rfl, hb0.trans (hb1.mono (by simp))⟩
      · rw [if_neg (by omega)]
        unfold strG
        have hb2 : decide (e < 0) = false := decide_eq_false h2
        have hb3 : decide (100 < e) = false := decide_eq_false h3
        have hw : IntKind.i64.wrap (2 * e) = 2 * e := IntWalk.i64_in _ (by omega)
        by_cases h4 : n ≤ 2 * e
        · rw [if_pos h4]
          go_enter Try.func45, Try.ntmps45
          go_wp2_with (go_at_call 64; refine (c64 _).mono ?_; rintro e' w1 ⟨rfl, hb1⟩; have k1 := hb1.cell (p := ⟨w.heap.size, 1, none⟩) (by simp); have k2 := hb1.cell (p := ⟨w.heap.size, 2, none⟩) (by simp); simp [go_sem] at k1 k2; have hs1 := hb1.size; simp at hs1)
          go_ret2
          exact ⟨rfl, hb0.trans (hb1.mono (by simp))⟩
        · rw [if_neg h4]
          by_cases h5 : t = 1
          · rw [if_pos h5]
            subst h5
            go_enter Try.func45, Try.ntmps45
            go_wp2_with (go_at_call 64; refine (c64 _).mono ?_; rintro e' w1 ⟨rfl, hb1⟩; have k1 := hb1.cell (p := ⟨w.heap.size, 1, none⟩) (by simp); have k2 := hb1.cell (p := ⟨w.heap.size, 2, none⟩) (by simp); simp [go_sem] at k1 k2; have hs1 := hb1.size; simp at hs1)
            go_ret2
            exact ⟨rfl, hb0.trans (hb1.mono (by simp))⟩
          · rw [if_neg h5]
            have hb5 : (t == 1) = false := by simpa using h5
            have ht0 : ¬ (t - 1 = 0) := by omega
            have hw1 : IntKind.i64.wrap (n - 1) = n - 1 := IntWalk.i64_in _ (by omega)
            have hw2 : IntKind.i64.wrap (n - 1 - 2 * e) = n - 1 - 2 * e := IntWalk.i64_in _ (by omega)
            have hw3 : IntKind.i64.wrap (t - 1) = t - 1 := IntWalk.i64_in _ (by omega)
            have d1 : 0 ≤ (n - 1 - 2 * e) / (t - 1) := Int.ediv_nonneg (by omega) (by omega)
            have d2 : (n - 1 - 2 * e) / (t - 1) ≤ n - 1 - 2 * e := Int.ediv_le_self _ (by omega)
            have d3 : (n - 1 - 2 * e).tdiv (t - 1) = (n - 1 - 2 * e) / (t - 1) := Int.tdiv_eq_ediv_of_nonneg (by omega)
            have hw4 : IntKind.i64.wrap ((n - 1 - 2 * e) / (t - 1)) = (n - 1 - 2 * e) / (t - 1) := IntWalk.i64_in _ (by omega)
            go_enter Try.func45, Try.ntmps45
            go_wp2_with (go_at_call 64; refine (c64 _).mono ?_; rintro e' w1 ⟨rfl, hb1⟩; have k1 := hb1.cell (p := ⟨w.heap.size, 1, none⟩) (by simp); have k2 := hb1.cell (p := ⟨w.heap.size, 2, none⟩) (by simp); simp [go_sem] at k1 k2; have hs1 := hb1.size; simp at hs1)
            go_ret2
            exact ⟨rfl, hb0.trans (hb1.mono (by simp))⟩
end Go.Proofs.Ytneliejncfncdaa
