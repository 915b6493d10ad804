/- The code's Explains. -/
import Derived.Test.YtneliejncfncdaaIe
import Derived.Test.YtneliejncfncdaaHc
namespace Go.Proofs.Ytneliejncfncdaa
open Go.RowKit

theorem unlN_comm (a b : List Bool) : ∀ k, unlN a b k = unlN b a k
  | 0 => rfl
  | k + 1 => by rw [unlN, unlN, unlN_comm a b k]; simp only [eq_comm]

def RetII (x y : Int) (w : World) (e : Ending) (w' : World) : Prop := e = .returned (.tuple #[.int .i64 x, .int .i64 y]) ∧ Below w.heap.size w w'

set_option maxRecDepth 100000 in
set_option maxHeartbeats 1600000 in
theorem Explains_bad (q t n : Int) (A R : Option Addr) (c d m N k : Nat) (l : List Int) (wl : List Bool) (e0 : Int) (w : World) (hl : l.length = m) (hA : Ints w A l) (hm : N ≤ 1000000) (hwl : wl.length = k) (hk : k ≤ 1000000)
    (c42 : ∀ W A c, Ints W A l → Calls Try.prog 42 #[pools q t n, .slice A m c] W (RetW wl e0 W)) (h : e0 = 1 ∨ e0 = 0 ∧ N ≠ k) :
    Calls Try.prog 53 #[pools q t n, .slice R N d, .slice A m c] w (RetII 0 1 w) := by
  have hb0 : Below w.heap.size w (w.alloc (.cells #[.int .i64 q, .int .i64 t, .int .i64 n] 35)) := (Below.refl _ _).alloc (Nat.le_refl _) _
  have hA0 := Ints.below hA hb0
  have HL := Lib.hid hwl
  clear hl hwl
  rcases h with rfl | ⟨rfl, hne⟩
  · go_enter Try.func53, Try.ntmps53
    go_wp2_with fail
    refine (c42 _ _ _ hA0).mono ?_
    rintro e w1 ⟨A1, c1, rfl, hW, hb1⟩
    go_wp2
    go_ret2
    exact ⟨rfl, hb0.trans (hb1.mono (by simp))⟩
  · have h1 : (N == k) = false := by simpa using hne
    have h2 : ((N : Int) == (k : Int)) = false := by simp; omega
    have h3 : ((N : Int) != (k : Int)) = true := by simp; omega
    have h4 : (N != k) = true := by simpa using hne
    go_enter Try.func53, Try.ntmps53
    go_wp2_with fail
    refine (c42 _ _ _ hA0).mono ?_
    rintro e w1 ⟨A1, c1, rfl, hW, hb1⟩
    rw [HL.out]
    go_wp2
    go_ret2
    exact ⟨rfl, hb0.trans (hb1.mono (by simp))⟩

set_option maxRecDepth 100000 in
set_option maxHeartbeats 1600000 in
theorem Explains_good (q t n : Int) (A R : Option Addr) (c d m N : Nat) (l : List Int) (wl b : List Bool) (w : World) (hl : l.length = m) (hA : Ints w A l) (hR : Bools w R b) (hbl : b.length = N) (hm : N ≤ 1000000) (hwl : wl.length = N)
    (c42 : ∀ W A c, Ints W A l → Calls Try.prog 42 #[pools q t n, .slice A m c] W (RetW wl 0 W)) :
    Calls Try.prog 53 #[pools q t n, .slice R N d, .slice A m c] w (RetII (unlN wl b N : Nat) 0 w) := by
  have hb0 : Below w.heap.size w (w.alloc (.cells #[.int .i64 q, .int .i64 t, .int .i64 n] 35)) := (Below.refl _ _).alloc (Nat.le_refl _) _
  have hA0 := Ints.below hA hb0
  have HL := Lib.hid hwl
  have HBL := Lib.hid hbl
  clear hl hwl hbl
  go_enter Try.func53, Try.ntmps53
  go_wp2_with fail
  refine (c42 _ _ _ hA0).mono ?_
  rintro e w1 ⟨A1, c1, rfl, hW, hb1⟩
  rw [HL.out]
  have hbf := hb0.trans (hb1.mono (by simp))
  have hR1 := hR.below hbf
  clear c42 hA0 hb0 hb1
  go_wp2
  go_loopw [10, 29] (fun s i wr => ∃ k : Nat, k ≤ N ∧ i = .int .i64 k ∧ s = .int .i64 (unlN wl b k : Nat) ∧ ∃ nd, wr = w1.drewN nd) (fun _ i _ => N - (intOf i).toNat)
  case atStart => exact ⟨0, by omega, rfl, rfl, 0, rfl⟩
  case round =>
    obtain ⟨k, hk, rfl, rfl, nd, rfl⟩ := hrel
    have hfl := unlN_le wl b k
    by_cases hlt : k < N
    · obtain ⟨b1, o1, rfl, hl1, hc1⟩ := hW.get (k := k) (by rw [HL.out]; exact hlt)
      obtain ⟨b2, o2, rfl, hl2, hc2⟩ := hR1.get (k := k) (by rw [HBL.out]; exact hlt)
      have hf : unlN wl b (k + 1) = unlN wl b k + (if wl[k]'(by rw [HL.out]; exact hlt) = b[k]'(by rw [HBL.out]; exact hlt) then 0 else 1) := by
        rw [unlN]
        simp [List.getD, show k < wl.length by rw [HL.out]; exact hlt, show k < b.length by rw [HBL.out]; exact hlt]
      generalize wl[k]'(by rw [HL.out]; exact hlt) = x at *
      generalize b[k]'(by rw [HBL.out]; exact hlt) = y at *
      by_cases hxy : x = y
      · rw [if_pos hxy] at hf
        subst hxy
        have HF := Lib.hid hf
        clear hf
        generalize unlN wl b k = s at *
        go_wp2
        go_quiet (fail)
        go_wp2
        go_roundw
        case rel => exact ⟨k + 1, by omega, by go_num, by rw [HF.out]; rfl, _, rfl⟩
        case measure => simp [intOf]; omega
      · rw [if_neg hxy] at hf
        have hb1 : (x == y) = false := by simpa using hxy
        have hb2 : (x != y) = true := by simpa using hxy
        have HF := Lib.hid hf
        clear hf
        generalize unlN wl b k = s at *
        go_wp2
        go_quiet (fail)
        go_wp2
        go_roundw
        case rel => exact ⟨k + 1, by omega, by go_num, by rw [HF.out]; go_num, _, rfl⟩
        case measure => simp [intOf]; omega
    · obtain rfl : k = N := by omega
      go_wp2
      go_ret2
      exact ⟨rfl, below_drewN' hbf _⟩
end Go.Proofs.Ytneliejncfncdaa
