/- The law SealFields. -/
import Derived.Test.YtneliejncfncdaaX
namespace Go.Proofs.Ytneliejncfncdaa
open Go.RowKit

section
variable (q a : Int) (A : Option Addr) (c n : Nat) (p l : List Int) (w : World)

set_option maxRecDepth 100000 in
set_option maxHeartbeats 1600000 in
theorem fields_noprime (h17 : Calls Try.prog 17 #[.slice A n c, .int .i64 40] w (RetInts l w)) (hl : l.length ≤ 40) (hp : primeB q = false) : Calls Try.prog 5 #[.int .i64 q, .int .i64 a, .slice A n c] w (Said true w) := by
  have hi : invR q a = (0, 1) := by
    unfold invR; rw [hp]; rfl
  have hv : valueR q l a = (0, 1) := by
    unfold valueR; rw [hp]; rfl
  have c19 : ∀ W, Calls Try.prog 19 #[.int .i64 q] W fun e w' => e = .returned (.bool false) ∧ W = w' := fun W => by
    have := (refPrime_any q W).mono fun e w' h => (⟨h.1, h.2.symm⟩ : e = .returned (.bool (primeB q)) ∧ W = w')
    rwa [hp] at this
  have c32 : ∀ W, Calls Try.prog 32 #[.int .i64 q] W fun e w' => e = .returned (.bool false) ∧ W = w' := fun W => by
    have := (prime_any q W).mono fun e w' h => (⟨h.1, h.2.symm⟩ : e = .returned (.bool (primeB q)) ∧ W = w')
    rwa [hp] at this
  have c30 : ∀ W, Calls Try.prog 30 #[.int .i64 q, .int .i64 a] W fun e w' => e = .returned (.tuple #[.int .i64 (invR q a).1, .int .i64 (invR q a).2]) ∧ Below W.heap.size W w' := fun W => inverse_ret q a W
  have c31 : ∀ (W : World) A c, Ints W A l → Calls Try.prog 31 #[.int .i64 q, .slice A l.length c, .int .i64 a] W fun e w' => e = .returned (.tuple #[.int .i64 (valueR q l a).1, .int .i64 (valueR q l a).2]) ∧ Below W.heap.size W w' := fun W A c h => value_ret q a A c l W h (by omega)
  rw [hi] at c30
  rw [hv] at c31
  go_enter Try.func5, Try.ntmps5
  go_wp2_with fail
  refine h17.mono ?_
  rintro e w1 ⟨v1, rfl, hs1, hb1⟩
  obtain ⟨A1, c1, rfl, _, _, _, hI⟩ := hs1
  go_wp2_with (first
    | (go_at_call 30; refine (c30 _).mono ?_; rintro e w2 ⟨rfl, hb2⟩)
    | (go_at_call 31; refine (c31 _ _ _ (Ints.below hI hb2)).mono ?_; rintro e w3 ⟨rfl, hb3⟩)
    | (go_at_call 32; refine (c32 _).mono ?_; rintro e w' ⟨rfl, rfl⟩)
    | (go_at_call 19; refine (c19 _).mono ?_; rintro e w' ⟨rfl, rfl⟩)
    | (go_at_call 21; refine (lives_any _).mono ?_; rintro e w4 ⟨rfl, hb4⟩)
)
  have hbf : Below w.heap.size w w4 := hb1.trans ((hb2.mono hb1.size).trans ((hb3.mono (by have := hb1.size; have := hb2.size; omega)).trans (hb4.mono (by have := hb1.size; have := hb2.size; have := hb3.size; omega))))
  go_ret
  exact ⟨rfl, hbf⟩

set_option maxRecDepth 100000 in
set_option maxHeartbeats 1600000 in
theorem fields_neg (h17 : Calls Try.prog 17 #[.slice A n c, .int .i64 40] w (RetInts l w)) (hl : l.length ≤ 40) (hp : primeB q = true) (ha : a < 0) : Calls Try.prog 5 #[.int .i64 q, .int .i64 a, .slice A n c] w (Said true w) := by
  have hi : invR q a = (0, 1) := by
    have he : elemB q [a] = false := by simp [elemB]; omega
    unfold invR; rw [hp, he]; rfl
  have hv : valueR q l a = (0, 1) := by
    have he : elemB q [a] = false := by simp [elemB]; omega
    unfold valueR; rw [hp, he]; simp
  have c19 : ∀ W, Calls Try.prog 19 #[.int .i64 q] W fun e w' => e = .returned (.bool true) ∧ W = w' := fun W => by
    have := (refPrime_any q W).mono fun e w' h => (⟨h.1, h.2.symm⟩ : e = .returned (.bool (primeB q)) ∧ W = w')
    rwa [hp] at this
  have c32 : ∀ W, Calls Try.prog 32 #[.int .i64 q] W fun e w' => e = .returned (.bool true) ∧ W = w' := fun W => by
    have := (prime_any q W).mono fun e w' h => (⟨h.1, h.2.symm⟩ : e = .returned (.bool (primeB q)) ∧ W = w')
    rwa [hp] at this
  have c30 : ∀ W, Calls Try.prog 30 #[.int .i64 q, .int .i64 a] W fun e w' => e = .returned (.tuple #[.int .i64 (invR q a).1, .int .i64 (invR q a).2]) ∧ Below W.heap.size W w' := fun W => inverse_ret q a W
  have c31 : ∀ (W : World) A c, Ints W A l → Calls Try.prog 31 #[.int .i64 q, .slice A l.length c, .int .i64 a] W fun e w' => e = .returned (.tuple #[.int .i64 (valueR q l a).1, .int .i64 (valueR q l a).2]) ∧ Below W.heap.size W w' := fun W A c h => value_ret q a A c l W h (by omega)
  rw [hi] at c30
  rw [hv] at c31
  go_enter Try.func5, Try.ntmps5
  go_wp2_with fail
  refine h17.mono ?_
  rintro e w1 ⟨v1, rfl, hs1, hb1⟩
  obtain ⟨A1, c1, rfl, _, _, _, hI⟩ := hs1
  go_wp2_with (first
    | (go_at_call 30; refine (c30 _).mono ?_; rintro e w2 ⟨rfl, hb2⟩)
    | (go_at_call 31; refine (c31 _ _ _ (Ints.below hI hb2)).mono ?_; rintro e w3 ⟨rfl, hb3⟩)
    | (go_at_call 32; refine (c32 _).mono ?_; rintro e w' ⟨rfl, rfl⟩)
    | (go_at_call 19; refine (c19 _).mono ?_; rintro e w' ⟨rfl, rfl⟩)
    | (go_at_call 21; refine (lives_any _).mono ?_; rintro e w4 ⟨rfl, hb4⟩)
)
  have hbf : Below w.heap.size w w4 := hb1.trans ((hb2.mono hb1.size).trans ((hb3.mono (by have := hb1.size; have := hb2.size; omega)).trans (hb4.mono (by have := hb1.size; have := hb2.size; have := hb3.size; omega))))
  go_ret
  exact ⟨rfl, hbf⟩

set_option maxRecDepth 100000 in
set_option maxHeartbeats 1600000 in
theorem fields_big (h17 : Calls Try.prog 17 #[.slice A n c, .int .i64 40] w (RetInts l w)) (hl : l.length ≤ 40) (hp : primeB q = true) (ha0 : 0 ≤ a) (ha : q ≤ a) : Calls Try.prog 5 #[.int .i64 q, .int .i64 a, .slice A n c] w (Said true w) := by
  have hi : invR q a = (0, 1) := by
    have he : elemB q [a] = false := by simp [elemB]; omega
    unfold invR; rw [hp, he]; rfl
  have hv : valueR q l a = (0, 1) := by
    have he : elemB q [a] = false := by simp [elemB]; omega
    unfold valueR; rw [hp, he]; simp
  have c19 : ∀ W, Calls Try.prog 19 #[.int .i64 q] W fun e w' => e = .returned (.bool true) ∧ W = w' := fun W => by
    have := (refPrime_any q W).mono fun e w' h => (⟨h.1, h.2.symm⟩ : e = .returned (.bool (primeB q)) ∧ W = w')
    rwa [hp] at this
  have c32 : ∀ W, Calls Try.prog 32 #[.int .i64 q] W fun e w' => e = .returned (.bool true) ∧ W = w' := fun W => by
    have := (prime_any q W).mono fun e w' h => (⟨h.1, h.2.symm⟩ : e = .returned (.bool (primeB q)) ∧ W = w')
    rwa [hp] at this
  have c30 : ∀ W, Calls Try.prog 30 #[.int .i64 q, .int .i64 a] W fun e w' => e = .returned (.tuple #[.int .i64 (invR q a).1, .int .i64 (invR q a).2]) ∧ Below W.heap.size W w' := fun W => inverse_ret q a W
  have c31 : ∀ (W : World) A c, Ints W A l → Calls Try.prog 31 #[.int .i64 q, .slice A l.length c, .int .i64 a] W fun e w' => e = .returned (.tuple #[.int .i64 (valueR q l a).1, .int .i64 (valueR q l a).2]) ∧ Below W.heap.size W w' := fun W A c h => value_ret q a A c l W h (by omega)
  rw [hi] at c30
  rw [hv] at c31
  have ha1 : ¬ a < 0 := by omega
  go_enter Try.func5, Try.ntmps5
  go_wp2_with fail
  refine h17.mono ?_
  rintro e w1 ⟨v1, rfl, hs1, hb1⟩
  obtain ⟨A1, c1, rfl, _, _, _, hI⟩ := hs1
  go_wp2_with (first
    | (go_at_call 30; refine (c30 _).mono ?_; rintro e w2 ⟨rfl, hb2⟩)
    | (go_at_call 31; refine (c31 _ _ _ (Ints.below hI hb2)).mono ?_; rintro e w3 ⟨rfl, hb3⟩)
    | (go_at_call 32; refine (c32 _).mono ?_; rintro e w' ⟨rfl, rfl⟩)
    | (go_at_call 19; refine (c19 _).mono ?_; rintro e w' ⟨rfl, rfl⟩)
    | (go_at_call 21; refine (lives_any _).mono ?_; rintro e w4 ⟨rfl, hb4⟩)
)
  have hbf : Below w.heap.size w w4 := hb1.trans ((hb2.mono hb1.size).trans ((hb3.mono (by have := hb1.size; have := hb2.size; omega)).trans (hb4.mono (by have := hb1.size; have := hb2.size; have := hb3.size; omega))))
  go_ret
  exact ⟨rfl, hbf⟩

set_option maxRecDepth 100000 in
set_option maxHeartbeats 1600000 in
theorem fields_zlong (h17 : Calls Try.prog 17 #[.slice A n c, .int .i64 40] w (RetInts l w)) (hl : l.length ≤ 40) (hp : primeB q = true) (ha : a = 0) (hlong : q < (l.length : Int)) : Calls Try.prog 5 #[.int .i64 q, .int .i64 a, .slice A n c] w (Said true w) := by
  have hi : invR q a = (0, 4) := by
    have hb := prime_bd hp
    have he : elemB q [a] = true := by simp [elemB]; omega
    unfold invR; rw [hp, he, if_pos ha]; rfl
  have hv : valueR q l a = (0, 1) := by
    have hb := prime_bd hp
    have he : elemB q [a] = true := by simp [elemB]; omega
    have hd : decide ((l.length : Int) ≤ q) = false := by simp; omega
    unfold valueR; rw [hp, he, hd]; simp
  have c19 : ∀ W, Calls Try.prog 19 #[.int .i64 q] W fun e w' => e = .returned (.bool true) ∧ W = w' := fun W => by
    have := (refPrime_any q W).mono fun e w' h => (⟨h.1, h.2.symm⟩ : e = .returned (.bool (primeB q)) ∧ W = w')
    rwa [hp] at this
  have c32 : ∀ W, Calls Try.prog 32 #[.int .i64 q] W fun e w' => e = .returned (.bool true) ∧ W = w' := fun W => by
    have := (prime_any q W).mono fun e w' h => (⟨h.1, h.2.symm⟩ : e = .returned (.bool (primeB q)) ∧ W = w')
    rwa [hp] at this
  have c30 : ∀ W, Calls Try.prog 30 #[.int .i64 q, .int .i64 a] W fun e w' => e = .returned (.tuple #[.int .i64 (invR q a).1, .int .i64 (invR q a).2]) ∧ Below W.heap.size W w' := fun W => inverse_ret q a W
  have c31 : ∀ (W : World) A c, Ints W A l → Calls Try.prog 31 #[.int .i64 q, .slice A l.length c, .int .i64 a] W fun e w' => e = .returned (.tuple #[.int .i64 (valueR q l a).1, .int .i64 (valueR q l a).2]) ∧ Below W.heap.size W w' := fun W A c h => value_ret q a A c l W h (by omega)
  rw [hi] at c30
  rw [hv] at c31
  have hb := prime_bd hp
  obtain ⟨hb1, hb2⟩ := hb
  subst ha
  go_enter Try.func5, Try.ntmps5
  go_wp2_with fail
  refine h17.mono ?_
  rintro e w1 ⟨v1, rfl, hs1, hb1⟩
  obtain ⟨A1, c1, rfl, _, _, _, hI⟩ := hs1
  go_wp2_with (first
    | (go_at_call 30; refine (c30 _).mono ?_; rintro e w2 ⟨rfl, hb2⟩)
    | (go_at_call 31; refine (c31 _ _ _ (Ints.below hI hb2)).mono ?_; rintro e w3 ⟨rfl, hb3⟩)
    | (go_at_call 32; refine (c32 _).mono ?_; rintro e w' ⟨rfl, rfl⟩)
    | (go_at_call 19; refine (c19 _).mono ?_; rintro e w' ⟨rfl, rfl⟩)
    | (go_at_call 21; refine (lives_any _).mono ?_; rintro e w4 ⟨rfl, hb4⟩)
)
  have hbf : Below w.heap.size w w4 := hb1.trans ((hb2.mono hb1.size).trans ((hb3.mono (by have := hb1.size; have := hb2.size; omega)).trans (hb4.mono (by have := hb1.size; have := hb2.size; have := hb3.size; omega))))
  go_ret
  exact ⟨rfl, hbf⟩

set_option maxRecDepth 100000 in
set_option maxHeartbeats 1600000 in
theorem fields_zout (h17 : Calls Try.prog 17 #[.slice A n c, .int .i64 40] w (RetInts l w)) (hl : l.length ≤ 40) (hp : primeB q = true) (ha : a = 0) (hlong : (l.length : Int) ≤ q) (hel : elemB q l = false) : Calls Try.prog 5 #[.int .i64 q, .int .i64 a, .slice A n c] w (Said true w) := by
  have hi : invR q a = (0, 4) := by
    have hb := prime_bd hp
    have he : elemB q [a] = true := by simp [elemB]; omega
    unfold invR; rw [hp, he, if_pos ha]; rfl
  have hv : valueR q l a = (0, 1) := by
    unfold valueR; rw [hp, hel]; simp
  have c19 : ∀ W, Calls Try.prog 19 #[.int .i64 q] W fun e w' => e = .returned (.bool true) ∧ W = w' := fun W => by
    have := (refPrime_any q W).mono fun e w' h => (⟨h.1, h.2.symm⟩ : e = .returned (.bool (primeB q)) ∧ W = w')
    rwa [hp] at this
  have c32 : ∀ W, Calls Try.prog 32 #[.int .i64 q] W fun e w' => e = .returned (.bool true) ∧ W = w' := fun W => by
    have := (prime_any q W).mono fun e w' h => (⟨h.1, h.2.symm⟩ : e = .returned (.bool (primeB q)) ∧ W = w')
    rwa [hp] at this
  have c30 : ∀ W, Calls Try.prog 30 #[.int .i64 q, .int .i64 a] W fun e w' => e = .returned (.tuple #[.int .i64 (invR q a).1, .int .i64 (invR q a).2]) ∧ Below W.heap.size W w' := fun W => inverse_ret q a W
  have c31 : ∀ (W : World) A c, Ints W A l → Calls Try.prog 31 #[.int .i64 q, .slice A l.length c, .int .i64 a] W fun e w' => e = .returned (.tuple #[.int .i64 (valueR q l a).1, .int .i64 (valueR q l a).2]) ∧ Below W.heap.size W w' := fun W A c h => value_ret q a A c l W h (by omega)
  rw [hi] at c30
  rw [hv] at c31
  have hb := prime_bd hp
  obtain ⟨hb1, hb2⟩ := hb
  subst ha
  have g1 : ¬ q < (l.length : Int) := by omega
  have c20 : ∀ (W : World) A c, Ints W A l → Calls Try.prog 20 #[.int .i64 q, .slice A l.length c] W fun e w' => e = .returned (.bool (elemB q l)) ∧ W = w' := fun W A c h => (refElements_any q A c l.length l W ⟨by omega, by omega⟩ h rfl (by omega)).mono fun e w' h => ⟨h.1, h.2.symm⟩
  rw [hel] at c20
  go_enter Try.func5, Try.ntmps5
  go_wp2_with fail
  refine h17.mono ?_
  rintro e w1 ⟨v1, rfl, hs1, hb1⟩
  obtain ⟨A1, c1, rfl, _, _, _, hI⟩ := hs1
  go_wp2_with (first
    | (go_at_call 30; refine (c30 _).mono ?_; rintro e w2 ⟨rfl, hb2⟩)
    | (go_at_call 31; refine (c31 _ _ _ (Ints.below hI hb2)).mono ?_; rintro e w3 ⟨rfl, hb3⟩)
    | (go_at_call 32; refine (c32 _).mono ?_; rintro e w' ⟨rfl, rfl⟩)
    | (go_at_call 19; refine (c19 _).mono ?_; rintro e w' ⟨rfl, rfl⟩)
    | (go_at_call 21; refine (lives_any _).mono ?_; rintro e w4 ⟨rfl, hb4⟩)
    | (go_at_call 20; refine (c20 _ _ _ (Ints.below (Ints.below (Ints.below hI hb2) hb3) hb4)).mono ?_; rintro e w' ⟨rfl, rfl⟩)
)
  have hbf : Below w.heap.size w w4 := hb1.trans ((hb2.mono hb1.size).trans ((hb3.mono (by have := hb1.size; have := hb2.size; omega)).trans (hb4.mono (by have := hb1.size; have := hb2.size; have := hb3.size; omega))))
  go_ret
  exact ⟨rfl, hbf⟩

set_option maxRecDepth 100000 in
set_option maxHeartbeats 1600000 in
theorem fields_zgood (h17 : Calls Try.prog 17 #[.slice A n c, .int .i64 40] w (RetInts l w)) (hl : l.length ≤ 40) (hp : primeB q = true) (ha : a = 0) (hlong : (l.length : Int) ≤ q) (hel : elemB q l = true) : Calls Try.prog 5 #[.int .i64 q, .int .i64 a, .slice A n c] w (Said true w) := by
  have hi : invR q a = (0, 4) := by
    have hb := prime_bd hp
    have he : elemB q [a] = true := by simp [elemB]; omega
    unfold invR; rw [hp, he, if_pos ha]; rfl
  have hv : valueR q l a = (Ytneliejncfncdaa.hv q a l, 0) := by
    have hb := prime_bd hp
    have he : elemB q [a] = true := by simp [elemB]; omega
    have hd : decide ((l.length : Int) ≤ q) = true := by simpa using hlong
    unfold valueR; rw [hp, hel, he, hd]; simp
  have c19 : ∀ W, Calls Try.prog 19 #[.int .i64 q] W fun e w' => e = .returned (.bool true) ∧ W = w' := fun W => by
    have := (refPrime_any q W).mono fun e w' h => (⟨h.1, h.2.symm⟩ : e = .returned (.bool (primeB q)) ∧ W = w')
    rwa [hp] at this
  have c32 : ∀ W, Calls Try.prog 32 #[.int .i64 q] W fun e w' => e = .returned (.bool true) ∧ W = w' := fun W => by
    have := (prime_any q W).mono fun e w' h => (⟨h.1, h.2.symm⟩ : e = .returned (.bool (primeB q)) ∧ W = w')
    rwa [hp] at this
  have c30 : ∀ W, Calls Try.prog 30 #[.int .i64 q, .int .i64 a] W fun e w' => e = .returned (.tuple #[.int .i64 (invR q a).1, .int .i64 (invR q a).2]) ∧ Below W.heap.size W w' := fun W => inverse_ret q a W
  have c31 : ∀ (W : World) A c, Ints W A l → Calls Try.prog 31 #[.int .i64 q, .slice A l.length c, .int .i64 a] W fun e w' => e = .returned (.tuple #[.int .i64 (valueR q l a).1, .int .i64 (valueR q l a).2]) ∧ Below W.heap.size W w' := fun W A c h => value_ret q a A c l W h (by omega)
  rw [hi] at c30
  rw [hv] at c31
  have hb := prime_bd hp
  obtain ⟨hb1, hb2⟩ := hb
  subst ha
  have g1 : ¬ q < (l.length : Int) := by omega
  have c20 : ∀ (W : World) A c, Ints W A l → Calls Try.prog 20 #[.int .i64 q, .slice A l.length c] W fun e w' => e = .returned (.bool (elemB q l)) ∧ W = w' := fun W A c h => (refElements_any q A c l.length l W ⟨by omega, by omega⟩ h rfl (by omega)).mono fun e w' h => ⟨h.1, h.2.symm⟩
  rw [hel] at c20
  have c34 : ∀ (W : World) A c, Ints W A l → Calls Try.prog 34 #[.int .i64 q, .slice A l.length c, .int .i64 0] W fun e w' => e = .returned (.int .i64 (Ytneliejncfncdaa.hv q 0 l)) ∧ W = w' := fun W A c h => (refValue_any q 0 A c l.length l W ⟨by omega, by omega⟩ ⟨by omega, by omega⟩ hel h rfl (by omega)).mono fun e w' h => ⟨h.1, h.2.symm⟩
  have HV := Lib.hid hv
  clear hv HV
  generalize Ytneliejncfncdaa.hv q 0 l = v at *
  go_enter Try.func5, Try.ntmps5
  go_wp2_with fail
  refine h17.mono ?_
  rintro e w1 ⟨v1, rfl, hs1, hb1⟩
  obtain ⟨A1, c1, rfl, _, _, _, hI⟩ := hs1
  go_wp2_with (first
    | (go_at_call 30; refine (c30 _).mono ?_; rintro e w2 ⟨rfl, hb2⟩)
    | (go_at_call 31; refine (c31 _ _ _ (Ints.below hI hb2)).mono ?_; rintro e w3 ⟨rfl, hb3⟩)
    | (go_at_call 32; refine (c32 _).mono ?_; rintro e w' ⟨rfl, rfl⟩)
    | (go_at_call 19; refine (c19 _).mono ?_; rintro e w' ⟨rfl, rfl⟩)
    | (go_at_call 21; refine (lives_any _).mono ?_; rintro e w4 ⟨rfl, hb4⟩)
    | (go_at_call 20; refine (c20 _ _ _ (Ints.below (Ints.below (Ints.below hI hb2) hb3) hb4)).mono ?_; rintro e w' ⟨rfl, rfl⟩)
    | (go_at_call 34; refine (c34 _ _ _ (Ints.below (Ints.below (Ints.below hI hb2) hb3) hb4)).mono ?_; rintro e w' ⟨rfl, rfl⟩)
)
  have hbf : Below w.heap.size w w4 := hb1.trans ((hb2.mono hb1.size).trans ((hb3.mono (by have := hb1.size; have := hb2.size; omega)).trans (hb4.mono (by have := hb1.size; have := hb2.size; have := hb3.size; omega))))
  go_ret
  exact ⟨rfl, hbf⟩

set_option maxRecDepth 100000 in
set_option maxHeartbeats 1600000 in
theorem fields_plong (h17 : Calls Try.prog 17 #[.slice A n c, .int .i64 40] w (RetInts l w)) (hl : l.length ≤ 40) (hp : primeB q = true) (ha0 : 1 ≤ a) (ha1 : a < q) (hlong : q < (l.length : Int)) : Calls Try.prog 5 #[.int .i64 q, .int .i64 a, .slice A n c] w (Said true w) := by
  have hi : invR q a = (pw q a (q - 2).toNat, 0) := by
    have hb := prime_bd hp
    have he : elemB q [a] = true := by simp [elemB]; omega
    unfold invR; simp only [hp, he, Bool.and_self, if_true]; rw [if_neg (by omega)]
  have hv : valueR q l a = (0, 1) := by
    have hb := prime_bd hp
    have he : elemB q [a] = true := by simp [elemB]; omega
    have hd : decide ((l.length : Int) ≤ q) = false := by simp; omega
    unfold valueR; rw [hp, he, hd]; simp
  have c19 : ∀ W, Calls Try.prog 19 #[.int .i64 q] W fun e w' => e = .returned (.bool true) ∧ W = w' := fun W => by
    have := (refPrime_any q W).mono fun e w' h => (⟨h.1, h.2.symm⟩ : e = .returned (.bool (primeB q)) ∧ W = w')
    rwa [hp] at this
  have c32 : ∀ W, Calls Try.prog 32 #[.int .i64 q] W fun e w' => e = .returned (.bool true) ∧ W = w' := fun W => by
    have := (prime_any q W).mono fun e w' h => (⟨h.1, h.2.symm⟩ : e = .returned (.bool (primeB q)) ∧ W = w')
    rwa [hp] at this
  have c30 : ∀ W, Calls Try.prog 30 #[.int .i64 q, .int .i64 a] W fun e w' => e = .returned (.tuple #[.int .i64 (invR q a).1, .int .i64 (invR q a).2]) ∧ Below W.heap.size W w' := fun W => inverse_ret q a W
  have c31 : ∀ (W : World) A c, Ints W A l → Calls Try.prog 31 #[.int .i64 q, .slice A l.length c, .int .i64 a] W fun e w' => e = .returned (.tuple #[.int .i64 (valueR q l a).1, .int .i64 (valueR q l a).2]) ∧ Below W.heap.size W w' := fun W A c h => value_ret q a A c l W h (by omega)
  rw [hi] at c30
  rw [hv] at c31
  have hb := prime_bd hp
  obtain ⟨hb1, hb2⟩ := hb
  have k1 : ¬ a < 0 := by omega
  have k2 : ¬ q ≤ a := by omega
  have k3 : ¬ a = 0 := by omega
  have k4 : (a == 0) = false := by simpa using k3
  have c33 : ∀ W, Calls Try.prog 33 #[.int .i64 q, .int .i64 a] W fun e w' => e = .returned (.int .i64 (pw q a (q - 2).toNat)) ∧ W = w' := fun W => (refInverse_any q a W hp ⟨ha0, ha1⟩).mono fun e w' h => ⟨h.1, h.2.symm⟩
  clear hi
  generalize pw q a (q - 2).toNat = i at *
  go_enter Try.func5, Try.ntmps5
  go_wp2_with fail
  refine h17.mono ?_
  rintro e w1 ⟨v1, rfl, hs1, hb1⟩
  obtain ⟨A1, c1, rfl, _, _, _, hI⟩ := hs1
  go_wp2_with (first
    | (go_at_call 30; refine (c30 _).mono ?_; rintro e w2 ⟨rfl, hb2⟩)
    | (go_at_call 31; refine (c31 _ _ _ (Ints.below hI hb2)).mono ?_; rintro e w3 ⟨rfl, hb3⟩)
    | (go_at_call 32; refine (c32 _).mono ?_; rintro e w' ⟨rfl, rfl⟩)
    | (go_at_call 19; refine (c19 _).mono ?_; rintro e w' ⟨rfl, rfl⟩)
    | (go_at_call 21; refine (lives_any _).mono ?_; rintro e w4 ⟨rfl, hb4⟩)
    | (go_at_call 33; refine (c33 _).mono ?_; rintro e w' ⟨rfl, rfl⟩)
)
  have hbf : Below w.heap.size w w4 := hb1.trans ((hb2.mono hb1.size).trans ((hb3.mono (by have := hb1.size; have := hb2.size; omega)).trans (hb4.mono (by have := hb1.size; have := hb2.size; have := hb3.size; omega))))
  go_ret
  exact ⟨rfl, hbf⟩

set_option maxRecDepth 100000 in
set_option maxHeartbeats 1600000 in
theorem fields_pout (h17 : Calls Try.prog 17 #[.slice A n c, .int .i64 40] w (RetInts l w)) (hl : l.length ≤ 40) (hp : primeB q = true) (ha0 : 1 ≤ a) (ha1 : a < q) (hlong : (l.length : Int) ≤ q) (hel : elemB q l = false) : Calls Try.prog 5 #[.int .i64 q, .int .i64 a, .slice A n c] w (Said true w) := by
  have hi : invR q a = (pw q a (q - 2).toNat, 0) := by
    have hb := prime_bd hp
    have he : elemB q [a] = true := by simp [elemB]; omega
    unfold invR; simp only [hp, he, Bool.and_self, if_true]; rw [if_neg (by omega)]
  have hv : valueR q l a = (0, 1) := by
    unfold valueR; rw [hp, hel]; simp
  have c19 : ∀ W, Calls Try.prog 19 #[.int .i64 q] W fun e w' => e = .returned (.bool true) ∧ W = w' := fun W => by
    have := (refPrime_any q W).mono fun e w' h => (⟨h.1, h.2.symm⟩ : e = .returned (.bool (primeB q)) ∧ W = w')
    rwa [hp] at this
  have c32 : ∀ W, Calls Try.prog 32 #[.int .i64 q] W fun e w' => e = .returned (.bool true) ∧ W = w' := fun W => by
    have := (prime_any q W).mono fun e w' h => (⟨h.1, h.2.symm⟩ : e = .returned (.bool (primeB q)) ∧ W = w')
    rwa [hp] at this
  have c30 : ∀ W, Calls Try.prog 30 #[.int .i64 q, .int .i64 a] W fun e w' => e = .returned (.tuple #[.int .i64 (invR q a).1, .int .i64 (invR q a).2]) ∧ Below W.heap.size W w' := fun W => inverse_ret q a W
  have c31 : ∀ (W : World) A c, Ints W A l → Calls Try.prog 31 #[.int .i64 q, .slice A l.length c, .int .i64 a] W fun e w' => e = .returned (.tuple #[.int .i64 (valueR q l a).1, .int .i64 (valueR q l a).2]) ∧ Below W.heap.size W w' := fun W A c h => value_ret q a A c l W h (by omega)
  rw [hi] at c30
  rw [hv] at c31
  have hb := prime_bd hp
  obtain ⟨hb1, hb2⟩ := hb
  have k1 : ¬ a < 0 := by omega
  have k2 : ¬ q ≤ a := by omega
  have k3 : ¬ a = 0 := by omega
  have k4 : (a == 0) = false := by simpa using k3
  have c33 : ∀ W, Calls Try.prog 33 #[.int .i64 q, .int .i64 a] W fun e w' => e = .returned (.int .i64 (pw q a (q - 2).toNat)) ∧ W = w' := fun W => (refInverse_any q a W hp ⟨ha0, ha1⟩).mono fun e w' h => ⟨h.1, h.2.symm⟩
  clear hi
  generalize pw q a (q - 2).toNat = i at *
  have g1 : ¬ q < (l.length : Int) := by omega
  have c20 : ∀ (W : World) A c, Ints W A l → Calls Try.prog 20 #[.int .i64 q, .slice A l.length c] W fun e w' => e = .returned (.bool (elemB q l)) ∧ W = w' := fun W A c h => (refElements_any q A c l.length l W ⟨by omega, by omega⟩ h rfl (by omega)).mono fun e w' h => ⟨h.1, h.2.symm⟩
  rw [hel] at c20
  go_enter Try.func5, Try.ntmps5
  go_wp2_with fail
  refine h17.mono ?_
  rintro e w1 ⟨v1, rfl, hs1, hb1⟩
  obtain ⟨A1, c1, rfl, _, _, _, hI⟩ := hs1
  go_wp2_with (first
    | (go_at_call 30; refine (c30 _).mono ?_; rintro e w2 ⟨rfl, hb2⟩)
    | (go_at_call 31; refine (c31 _ _ _ (Ints.below hI hb2)).mono ?_; rintro e w3 ⟨rfl, hb3⟩)
    | (go_at_call 32; refine (c32 _).mono ?_; rintro e w' ⟨rfl, rfl⟩)
    | (go_at_call 19; refine (c19 _).mono ?_; rintro e w' ⟨rfl, rfl⟩)
    | (go_at_call 21; refine (lives_any _).mono ?_; rintro e w4 ⟨rfl, hb4⟩)
    | (go_at_call 33; refine (c33 _).mono ?_; rintro e w' ⟨rfl, rfl⟩)
    | (go_at_call 20; refine (c20 _ _ _ (Ints.below (Ints.below (Ints.below hI hb2) hb3) hb4)).mono ?_; rintro e w' ⟨rfl, rfl⟩)
)
  have hbf : Below w.heap.size w w4 := hb1.trans ((hb2.mono hb1.size).trans ((hb3.mono (by have := hb1.size; have := hb2.size; omega)).trans (hb4.mono (by have := hb1.size; have := hb2.size; have := hb3.size; omega))))
  go_ret
  exact ⟨rfl, hbf⟩

set_option maxRecDepth 100000 in
set_option maxHeartbeats 1600000 in
theorem fields_pgood (h17 : Calls Try.prog 17 #[.slice A n c, .int .i64 40] w (RetInts l w)) (hl : l.length ≤ 40) (hp : primeB q = true) (ha0 : 1 ≤ a) (ha1 : a < q) (hlong : (l.length : Int) ≤ q) (hel : elemB q l = true) : Calls Try.prog 5 #[.int .i64 q, .int .i64 a, .slice A n c] w (Said true w) := by
  have hi : invR q a = (pw q a (q - 2).toNat, 0) := by
    have hb := prime_bd hp
    have he : elemB q [a] = true := by simp [elemB]; omega
    unfold invR; simp only [hp, he, Bool.and_self, if_true]; rw [if_neg (by omega)]
  have hv : valueR q l a = (Ytneliejncfncdaa.hv q a l, 0) := by
    have hb := prime_bd hp
    have he : elemB q [a] = true := by simp [elemB]; omega
    have hd : decide ((l.length : Int) ≤ q) = true := by simpa using hlong
    unfold valueR; rw [hp, hel, he, hd]; simp
  have c19 : ∀ W, Calls Try.prog 19 #[.int .i64 q] W fun e w' => e = .returned (.bool true) ∧ W = w' := fun W => by
    have := (refPrime_any q W).mono fun e w' h => (⟨h.1, h.2.symm⟩ : e = .returned (.bool (primeB q)) ∧ W = w')
    rwa [hp] at this
  have c32 : ∀ W, Calls Try.prog 32 #[.int .i64 q] W fun e w' => e = .returned (.bool true) ∧ W = w' := fun W => by
    have := (prime_any q W).mono fun e w' h => (⟨h.1, h.2.symm⟩ : e = .returned (.bool (primeB q)) ∧ W = w')
    rwa [hp] at this
  have c30 : ∀ W, Calls Try.prog 30 #[.int .i64 q, .int .i64 a] W fun e w' => e = .returned (.tuple #[.int .i64 (invR q a).1, .int .i64 (invR q a).2]) ∧ Below W.heap.size W w' := fun W => inverse_ret q a W
  have c31 : ∀ (W : World) A c, Ints W A l → Calls Try.prog 31 #[.int .i64 q, .slice A l.length c, .int .i64 a] W fun e w' => e = .returned (.tuple #[.int .i64 (valueR q l a).1, .int .i64 (valueR q l a).2]) ∧ Below W.heap.size W w' := fun W A c h => value_ret q a A c l W h (by omega)
  rw [hi] at c30
  rw [hv] at c31
  have hb := prime_bd hp
  obtain ⟨hb1, hb2⟩ := hb
  have k1 : ¬ a < 0 := by omega
  have k2 : ¬ q ≤ a := by omega
  have k3 : ¬ a = 0 := by omega
  have k4 : (a == 0) = false := by simpa using k3
  have c33 : ∀ W, Calls Try.prog 33 #[.int .i64 q, .int .i64 a] W fun e w' => e = .returned (.int .i64 (pw q a (q - 2).toNat)) ∧ W = w' := fun W => (refInverse_any q a W hp ⟨ha0, ha1⟩).mono fun e w' h => ⟨h.1, h.2.symm⟩
  clear hi
  generalize pw q a (q - 2).toNat = i at *
  have g1 : ¬ q < (l.length : Int) := by omega
  have c20 : ∀ (W : World) A c, Ints W A l → Calls Try.prog 20 #[.int .i64 q, .slice A l.length c] W fun e w' => e = .returned (.bool (elemB q l)) ∧ W = w' := fun W A c h => (refElements_any q A c l.length l W ⟨by omega, by omega⟩ h rfl (by omega)).mono fun e w' h => ⟨h.1, h.2.symm⟩
  rw [hel] at c20
  have c34 : ∀ (W : World) A c, Ints W A l → Calls Try.prog 34 #[.int .i64 q, .slice A l.length c, .int .i64 a] W fun e w' => e = .returned (.int .i64 (Ytneliejncfncdaa.hv q a l)) ∧ W = w' := fun W A c h => (refValue_any q a A c l.length l W ⟨by omega, by omega⟩ ⟨by omega, by omega⟩ hel h rfl (by omega)).mono fun e w' h => ⟨h.1, h.2.symm⟩
  have HV := Lib.hid hv
  clear hv HV
  generalize Ytneliejncfncdaa.hv q a l = v at *
  go_enter Try.func5, Try.ntmps5
  go_wp2_with fail
  refine h17.mono ?_
  rintro e w1 ⟨v1, rfl, hs1, hb1⟩
  obtain ⟨A1, c1, rfl, _, _, _, hI⟩ := hs1
  go_wp2_with (first
    | (go_at_call 30; refine (c30 _).mono ?_; rintro e w2 ⟨rfl, hb2⟩)
    | (go_at_call 31; refine (c31 _ _ _ (Ints.below hI hb2)).mono ?_; rintro e w3 ⟨rfl, hb3⟩)
    | (go_at_call 32; refine (c32 _).mono ?_; rintro e w' ⟨rfl, rfl⟩)
    | (go_at_call 19; refine (c19 _).mono ?_; rintro e w' ⟨rfl, rfl⟩)
    | (go_at_call 21; refine (lives_any _).mono ?_; rintro e w4 ⟨rfl, hb4⟩)
    | (go_at_call 33; refine (c33 _).mono ?_; rintro e w' ⟨rfl, rfl⟩)
    | (go_at_call 20; refine (c20 _ _ _ (Ints.below (Ints.below (Ints.below hI hb2) hb3) hb4)).mono ?_; rintro e w' ⟨rfl, rfl⟩)
    | (go_at_call 34; refine (c34 _ _ _ (Ints.below (Ints.below (Ints.below hI hb2) hb3) hb4)).mono ?_; rintro e w' ⟨rfl, rfl⟩)
)
  have hbf : Below w.heap.size w w4 := hb1.trans ((hb2.mono hb1.size).trans ((hb3.mono (by have := hb1.size; have := hb2.size; omega)).trans (hb4.mono (by have := hb1.size; have := hb2.size; have := hb3.size; omega))))
  go_ret
  exact ⟨rfl, hbf⟩
end
end Go.Proofs.Ytneliejncfncdaa
namespace Go.Proofs.Ytneliejncfncdaa
open Go.RowKit
theorem fields_any (q a : Int) (A : Option Addr) (c n : Nat) (p : List Int) (w : World) (hA : Ints w A p) (hn : p.length = n) (hnc : n ≤ c) (hnil : A = none → c = 0) :
    Calls Try.prog 5 #[.int .i64 q, .int .i64 a, .slice A n c] w (Said true w) := by
  have h17 := cut_any A n c 40 40 p w hA hn hnc rfl (by omega) hnil
  have hl : (p.take 40).length ≤ 40 := by simp; omega
  generalize p.take 40 = l at *
  by_cases hp : primeB q = true
  · by_cases h0 : a < 0
    · exact fields_neg q a A c n l w h17 hl hp h0
    · by_cases h1 : q ≤ a
      · exact fields_big q a A c n l w h17 hl hp (by omega) h1
      · by_cases hz : a = 0
        · by_cases hlong : q < (l.length : Int)
          · exact fields_zlong q a A c n l w h17 hl hp hz hlong
          · by_cases hel : elemB q l = true
            · exact fields_zgood q a A c n l w h17 hl hp hz (by omega) hel
            · exact fields_zout q a A c n l w h17 hl hp hz (by omega) (by simpa using hel)
        · by_cases hlong : q < (l.length : Int)
          · exact fields_plong q a A c n l w h17 hl hp (by omega) (by omega) hlong
          · by_cases hel : elemB q l = true
            · exact fields_pgood q a A c n l w h17 hl hp (by omega) (by omega) (by omega) hel
            · exact fields_pout q a A c n l w h17 hl hp (by omega) (by omega) (by omega) (by simpa using hel)
  · exact fields_noprime q a A c n l w h17 hl (by simpa using hp)
end Go.Proofs.Ytneliejncfncdaa
