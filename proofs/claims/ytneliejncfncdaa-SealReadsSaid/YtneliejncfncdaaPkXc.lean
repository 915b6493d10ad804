/- Texts Xc Xca Xcb Xcc Xcd Xce Xda Xdb Xe in one. -/
import Derived.Test.YtneliejncfncdaaPkXa
namespace Go.Proofs.Ytneliejncfncdaa
open Go.RowKit

theorem readR_bad (q k : Int) (a : List Int) (h : (primeB q && elemB q a && (decide (1 ≤ k) && decide (k ≤ (a.length : Int)) && decide ((a.length : Int) ≤ q))) = false) : readR q k a = ([], 0, 1) := by
  unfold readR
  rw [h]
  rfl
/-- A message is near enough. -/
def Near (q : Int) (k t : Nat) (word m : List Int) : Prop := elemB q m = true ∧ m.length = k ∧ wrongs q m word word.length ≤ t
theorem refRead_near {q : Int} {k t n : Nat} {word m : List Int} (hq : primeB q = true) (hwe : elemB q word = true) (hn : word.length = n) (hk : 1 ≤ k) (hkn : k ≤ n) (hnq : (n : Int) ≤ q) (ht : t = (n - k) / 2) (hm : Near q k t word m) (w : World) (e : Ending) (w' : World) (h : RetRead q k t word w e w') :
    ∃ v, e = .returned (.tuple #[v, .int .i64 (wrongs q m word n : Nat)]) ∧ SlI w' v m ∧ Below w.heap.size w w' := by
  rcases h with ⟨v, r, he, hs, hl, hre, hw, hb⟩ | ⟨_, hno, _⟩
  · have h1 := readR_near hq word m hwe hm.1 k hm.2.1 hk (by omega) (by omega) (by rw [hn, ← ht, ← hn]; exact hm.2.2)
    have h2 := readR_near hq word r hwe hre k hl hk (by omega) (by omega) (by rw [hn, ← ht, ← hn]; exact hw)
    rw [h1] at h2
    obtain rfl : m = r := (Prod.mk.inj h2).1
    exact ⟨v, by rw [he, hn], hs, hb⟩
  · exact absurd hm.2.2 (hno m hm.1 hm.2.1)
theorem refRead_far {q : Int} {k t : Nat} {word : List Int} (hno : ∀ m, ¬ Near q k t word m) (w : World) (e : Ending) (w' : World) (h : RetRead q k t word w e w') :
    e = .returned (.tuple #[.slice none 0 0, .int .i64 (-1)]) ∧ Below w.heap.size w w' := by
  rcases h with ⟨v, r, he, hs, hl, hre, hw, hb⟩ | ⟨he, _, hb⟩
  · exact absurd ⟨hre, hl, hw⟩ (hno r)
  · exact ⟨he, hb⟩
end Go.Proofs.Ytneliejncfncdaa

namespace Go.Proofs.Ytneliejncfncdaa
open Go.RowKit

section
variable (q k : Int) (A : Option Addr) (c m : Nat) (p a : List Int) (w : World)

set_option maxRecDepth 100000 in
set_option maxHeartbeats 1600000 in
theorem rds_noprime (h17 : Calls Try.prog 17 #[.slice A m c, .int .i64 40] w (RetInts a w)) (hla : a.length ≤ 40) (hp : primeB q = false) :
    Calls Try.prog 3 #[.int .i64 q, .int .i64 k, .slice A m c] w (Said true w) := by
  have he : readR q k a = ([], 0, 1) := readR_bad _ _ _ (by rw [hp]; rfl)
  have c18 : ∀ (W : World) A c, Ints W A a → Calls Try.prog 18 #[.int .i64 q, .int .i64 k, .slice A a.length c] W (Ret3 (readR q k a).1 (readR q k a).2.1 (readR q k a).2.2 W) := fun W A c h1 => read_ret q k A c a W h1 (by omega)
  rw [he] at c18
  clear he
  have c19 : ∀ W, Calls Try.prog 19 #[.int .i64 q] W fun e w' => e = .returned (.bool false) ∧ W = w' := fun W => by
    have := (refPrime_any q W).mono fun e w' h => (⟨h.1, h.2.symm⟩ : e = .returned (.bool (primeB q)) ∧ W = w')
    rwa [hp] at this
  go_enter Try.func3, Try.ntmps3
  go_wp2_with fail
  refine h17.mono ?_
  rintro e w1 ⟨v1, rfl, hs1, hb1⟩
  obtain ⟨A1, c1, rfl, hI⟩ := hs1.lieA rfl
  clear hs1 h17
  go_wp2_with fail
  refine (c18 _ _ _ hI).mono ?_
  rintro e w2 ⟨v2, rfl, hs2, _, hb2⟩
  obtain ⟨A2, c2, rfl, hJ⟩ := hs2.lieA (n := 0) rfl
  have hI2 := hI.below hb2
  have hb12 := hb1.trans (hb2.mono hb1.size)
  clear hs2 hI hb1 hb2 c18
  go_wp2_with (first | (go_at_call 19; refine (c19 _).mono ?_; rintro e w' ⟨rfl, rfl⟩) | (go_at_call 21; refine (lives_any _).mono ?_; rintro e w4 ⟨rfl, hb4⟩))
  have hbf := hb12.trans (hb4.mono hb12.size)
  go_ret
  exact ⟨rfl, hbf⟩
end
end Go.Proofs.Ytneliejncfncdaa

namespace Go.Proofs.Ytneliejncfncdaa
open Go.RowKit

section
variable (q k : Int) (A : Option Addr) (c m : Nat) (p a : List Int) (w : World)

set_option maxRecDepth 100000 in
set_option maxHeartbeats 1600000 in
theorem rds_small (h17 : Calls Try.prog 17 #[.slice A m c, .int .i64 40] w (RetInts a w)) (hla : a.length ≤ 40) (hp : primeB q = true) (h1 : k < 1) :
    Calls Try.prog 3 #[.int .i64 q, .int .i64 k, .slice A m c] w (Said true w) := by
  have he : readR q k a = ([], 0, 1) := readR_bad _ _ _ (by rw [decide_eq_false (show ¬ 1 ≤ k by omega)]; simp)
  have c18 : ∀ (W : World) A c, Ints W A a → Calls Try.prog 18 #[.int .i64 q, .int .i64 k, .slice A a.length c] W (Ret3 (readR q k a).1 (readR q k a).2.1 (readR q k a).2.2 W) := fun W A c h1 => read_ret q k A c a W h1 (by omega)
  rw [he] at c18
  clear he
  have c19 : ∀ W, Calls Try.prog 19 #[.int .i64 q] W fun e w' => e = .returned (.bool true) ∧ W = w' := fun W => by
    have := (refPrime_any q W).mono fun e w' h => (⟨h.1, h.2.symm⟩ : e = .returned (.bool (primeB q)) ∧ W = w')
    rwa [hp] at this
  have g1b : decide (k < 1) = true := decide_eq_true h1
  go_enter Try.func3, Try.ntmps3
  go_wp2_with fail
  refine h17.mono ?_
  rintro e w1 ⟨v1, rfl, hs1, hb1⟩
  obtain ⟨A1, c1, rfl, hI⟩ := hs1.lieA rfl
  clear hs1 h17
  go_wp2_with fail
  refine (c18 _ _ _ hI).mono ?_
  rintro e w2 ⟨v2, rfl, hs2, _, hb2⟩
  obtain ⟨A2, c2, rfl, hJ⟩ := hs2.lieA (n := 0) rfl
  have hI2 := hI.below hb2
  have hb12 := hb1.trans (hb2.mono hb1.size)
  clear hs2 hI hb1 hb2 c18
  go_wp2_with (first | (go_at_call 19; refine (c19 _).mono ?_; rintro e w' ⟨rfl, rfl⟩) | (go_at_call 21; refine (lives_any _).mono ?_; rintro e w4 ⟨rfl, hb4⟩))
  have hbf := hb12.trans (hb4.mono hb12.size)
  go_ret
  exact ⟨rfl, hbf⟩
end
end Go.Proofs.Ytneliejncfncdaa

namespace Go.Proofs.Ytneliejncfncdaa
open Go.RowKit

section
variable (q k : Int) (A : Option Addr) (c m : Nat) (p a : List Int) (w : World)

set_option maxRecDepth 100000 in
set_option maxHeartbeats 1600000 in
theorem rds_short (h17 : Calls Try.prog 17 #[.slice A m c, .int .i64 40] w (RetInts a w)) (hla : a.length ≤ 40) (hp : primeB q = true) (h1 : 1 ≤ k) (h2 : (a.length : Int) < k) :
    Calls Try.prog 3 #[.int .i64 q, .int .i64 k, .slice A m c] w (Said true w) := by
  have he : readR q k a = ([], 0, 1) := readR_bad _ _ _ (by rw [decide_eq_false (show ¬ k ≤ (a.length : Int) by omega)]; simp)
  have c18 : ∀ (W : World) A c, Ints W A a → Calls Try.prog 18 #[.int .i64 q, .int .i64 k, .slice A a.length c] W (Ret3 (readR q k a).1 (readR q k a).2.1 (readR q k a).2.2 W) := fun W A c h1 => read_ret q k A c a W h1 (by omega)
  rw [he] at c18
  clear he
  have c19 : ∀ W, Calls Try.prog 19 #[.int .i64 q] W fun e w' => e = .returned (.bool true) ∧ W = w' := fun W => by
    have := (refPrime_any q W).mono fun e w' h => (⟨h.1, h.2.symm⟩ : e = .returned (.bool (primeB q)) ∧ W = w')
    rwa [hp] at this
  have g1 : ¬ (k < 1) := by omega
  have g1b : decide (k < 1) = false := decide_eq_false g1
  have g2b : decide ((a.length : Int) < k) = true := decide_eq_true h2
  go_enter Try.func3, Try.ntmps3
  go_wp2_with fail
  refine h17.mono ?_
  rintro e w1 ⟨v1, rfl, hs1, hb1⟩
  obtain ⟨A1, c1, rfl, hI⟩ := hs1.lieA rfl
  clear hs1 h17
  go_wp2_with fail
  refine (c18 _ _ _ hI).mono ?_
  rintro e w2 ⟨v2, rfl, hs2, _, hb2⟩
  obtain ⟨A2, c2, rfl, hJ⟩ := hs2.lieA (n := 0) rfl
  have hI2 := hI.below hb2
  have hb12 := hb1.trans (hb2.mono hb1.size)
  clear hs2 hI hb1 hb2 c18
  go_wp2_with (first | (go_at_call 19; refine (c19 _).mono ?_; rintro e w' ⟨rfl, rfl⟩) | (go_at_call 21; refine (lives_any _).mono ?_; rintro e w4 ⟨rfl, hb4⟩))
  have hbf := hb12.trans (hb4.mono hb12.size)
  go_ret
  exact ⟨rfl, hbf⟩
end
end Go.Proofs.Ytneliejncfncdaa

namespace Go.Proofs.Ytneliejncfncdaa
open Go.RowKit

section
variable (q k : Int) (A : Option Addr) (c m : Nat) (p a : List Int) (w : World)

set_option maxRecDepth 100000 in
set_option maxHeartbeats 1600000 in
theorem rds_long (h17 : Calls Try.prog 17 #[.slice A m c, .int .i64 40] w (RetInts a w)) (hla : a.length ≤ 40) (hp : primeB q = true) (h1 : 1 ≤ k) (h2 : k ≤ (a.length : Int)) (h3 : q < (a.length : Int)) :
    Calls Try.prog 3 #[.int .i64 q, .int .i64 k, .slice A m c] w (Said true w) := by
  have he : readR q k a = ([], 0, 1) := readR_bad _ _ _ (by rw [decide_eq_false (show ¬ (a.length : Int) ≤ q by omega)]; simp)
  have c18 : ∀ (W : World) A c, Ints W A a → Calls Try.prog 18 #[.int .i64 q, .int .i64 k, .slice A a.length c] W (Ret3 (readR q k a).1 (readR q k a).2.1 (readR q k a).2.2 W) := fun W A c h1 => read_ret q k A c a W h1 (by omega)
  rw [he] at c18
  clear he
  have c19 : ∀ W, Calls Try.prog 19 #[.int .i64 q] W fun e w' => e = .returned (.bool true) ∧ W = w' := fun W => by
    have := (refPrime_any q W).mono fun e w' h => (⟨h.1, h.2.symm⟩ : e = .returned (.bool (primeB q)) ∧ W = w')
    rwa [hp] at this
  have g1 : ¬ (k < 1) := by omega
  have g1b : decide (k < 1) = false := decide_eq_false g1
  have g2 : ¬ ((a.length : Int) < k) := by omega
  have g2b : decide ((a.length : Int) < k) = false := decide_eq_false g2
  have g3b : decide (q < (a.length : Int)) = true := decide_eq_true h3
  go_enter Try.func3, Try.ntmps3
  go_wp2_with fail
  refine h17.mono ?_
  rintro e w1 ⟨v1, rfl, hs1, hb1⟩
  obtain ⟨A1, c1, rfl, hI⟩ := hs1.lieA rfl
  clear hs1 h17
  go_wp2_with fail
  refine (c18 _ _ _ hI).mono ?_
  rintro e w2 ⟨v2, rfl, hs2, _, hb2⟩
  obtain ⟨A2, c2, rfl, hJ⟩ := hs2.lieA (n := 0) rfl
  have hI2 := hI.below hb2
  have hb12 := hb1.trans (hb2.mono hb1.size)
  clear hs2 hI hb1 hb2 c18
  go_wp2_with (first | (go_at_call 19; refine (c19 _).mono ?_; rintro e w' ⟨rfl, rfl⟩) | (go_at_call 21; refine (lives_any _).mono ?_; rintro e w4 ⟨rfl, hb4⟩))
  have hbf := hb12.trans (hb4.mono hb12.size)
  go_ret
  exact ⟨rfl, hbf⟩
end
end Go.Proofs.Ytneliejncfncdaa

namespace Go.Proofs.Ytneliejncfncdaa
open Go.RowKit

section
variable (q k : Int) (A : Option Addr) (c m : Nat) (p a : List Int) (w : World)

set_option maxRecDepth 100000 in
set_option maxHeartbeats 1600000 in
theorem rds_out (h17 : Calls Try.prog 17 #[.slice A m c, .int .i64 40] w (RetInts a w)) (hla : a.length ≤ 40) (hp : primeB q = true) (h1 : 1 ≤ k) (h2 : k ≤ (a.length : Int)) (h3 : (a.length : Int) ≤ q) (hea : elemB q a = false) :
    Calls Try.prog 3 #[.int .i64 q, .int .i64 k, .slice A m c] w (Said true w) := by
  have he : readR q k a = ([], 0, 1) := readR_bad _ _ _ (by rw [hea]; simp)
  have c18 : ∀ (W : World) A c, Ints W A a → Calls Try.prog 18 #[.int .i64 q, .int .i64 k, .slice A a.length c] W (Ret3 (readR q k a).1 (readR q k a).2.1 (readR q k a).2.2 W) := fun W A c h1 => read_ret q k A c a W h1 (by omega)
  rw [he] at c18
  clear he
  have c19 : ∀ W, Calls Try.prog 19 #[.int .i64 q] W fun e w' => e = .returned (.bool true) ∧ W = w' := fun W => by
    have := (refPrime_any q W).mono fun e w' h => (⟨h.1, h.2.symm⟩ : e = .returned (.bool (primeB q)) ∧ W = w')
    rwa [hp] at this
  have c20 : ∀ (W : World) A c, Ints W A a → Calls Try.prog 20 #[.int .i64 q, .slice A a.length c] W fun e w' => e = .returned (.bool false) ∧ W = w' := fun W A c h => by
    have := (refElements_any q A c a.length a W (prime_bd hp) h rfl (by omega)).mono fun e w' h => (⟨h.1, h.2.symm⟩ : e = .returned (.bool (elemB q a)) ∧ W = w')
    rwa [hea] at this
  have g1 : ¬ (k < 1) := by omega
  have g1b : decide (k < 1) = false := decide_eq_false g1
  have g2 : ¬ ((a.length : Int) < k) := by omega
  have g2b : decide ((a.length : Int) < k) = false := decide_eq_false g2
  have g3 : ¬ (q < (a.length : Int)) := by omega
  have g3b : decide (q < (a.length : Int)) = false := decide_eq_false g3
  go_enter Try.func3, Try.ntmps3
  go_wp2_with fail
  refine h17.mono ?_
  rintro e w1 ⟨v1, rfl, hs1, hb1⟩
  obtain ⟨A1, c1, rfl, hI⟩ := hs1.lieA rfl
  clear hs1 h17
  go_wp2_with fail
  refine (c18 _ _ _ hI).mono ?_
  rintro e w2 ⟨v2, rfl, hs2, _, hb2⟩
  obtain ⟨A2, c2, rfl, hJ⟩ := hs2.lieA (n := 0) rfl
  have hI2 := hI.below hb2
  have hb12 := hb1.trans (hb2.mono hb1.size)
  clear hs2 hI hb1 hb2 c18
  go_wp2_with (first | (go_at_call 19; refine (c19 _).mono ?_; rintro e w' ⟨rfl, rfl⟩) | (go_at_call 21; refine (lives_any _).mono ?_; rintro e w4 ⟨rfl, hb4⟩) | (go_at_call 20; refine (c20 _ _ _ hI2).mono ?_; rintro e w' ⟨rfl, rfl⟩))
  have hbf := hb12.trans (hb4.mono hb12.size)
  go_ret
  exact ⟨rfl, hbf⟩
end
end Go.Proofs.Ytneliejncfncdaa

namespace Go.Proofs.Ytneliejncfncdaa
open Go.RowKit

section
variable (q k : Int) (A : Option Addr) (c m : Nat) (p a : List Int) (w : World)

set_option maxRecDepth 100000 in
set_option maxHeartbeats 1600000 in
theorem rds_far (h17 : Calls Try.prog 17 #[.slice A m c, .int .i64 40] w (RetInts a w)) (hla : a.length ≤ 40) (N K t : Nat) (hN : a.length = N) (hK : k = K) (hp : primeB q = true) (h1 : 1 ≤ K) (h2 : K ≤ N) (h3 : (N : Int) ≤ q) (hea : elemB q a = true) (ht : t = (N - K) / 2) (hno : ∀ m, ¬ Near q K t a m) :
    Calls Try.prog 3 #[.int .i64 q, .int .i64 k, .slice A m c] w (Said true w) := by
  subst hK
  have he : readR q K a = ([], 0, 6) := readR_far hp a hea K h1 (by omega) (by omega) fun m h4 h5 h6 => hno m ⟨h4, h5, by rw [ht]; rw [hN] at h6 ⊢; exact h6⟩
  have c18 : ∀ (W : World) A c, Ints W A a → Calls Try.prog 18 #[.int .i64 q, .int .i64 K, .slice A N c] W (Ret3 (readR q K a).1 (readR q K a).2.1 (readR q K a).2.2 W) := fun W A c h1 => by
    have := read_ret q K A c a W h1 (by omega)
    rwa [hN] at this
  rw [he] at c18
  clear he
  have c19 : ∀ W, Calls Try.prog 19 #[.int .i64 q] W fun e w' => e = .returned (.bool true) ∧ W = w' := fun W => by
    have := (refPrime_any q W).mono fun e w' h => (⟨h.1, h.2.symm⟩ : e = .returned (.bool (primeB q)) ∧ W = w')
    rwa [hp] at this
  have c20 : ∀ (W : World) A c, Ints W A a → Calls Try.prog 20 #[.int .i64 q, .slice A N c] W fun e w' => e = .returned (.bool true) ∧ W = w' := fun W A c h => by
    have := (refElements_any q A c N a W (prime_bd hp) h hN (by omega)).mono fun e w' h => (⟨h.1, h.2.symm⟩ : e = .returned (.bool (elemB q a)) ∧ W = w')
    rwa [hea] at this
  have c22 : ∀ (W : World) A c, Ints W A a → Calls Try.prog 22 #[.int .i64 q, .int .i64 K, .slice A N c] W fun e w' => e = .returned (.tuple #[.slice none 0 0, .int .i64 (-1)]) ∧ Below W.heap.size W w' := fun W A c h => (refRead_any q K t N A c a W (prime_bd hp) hea h hN (by have := prime_bd hp; omega) h1 h2 ht).mono fun e w' h => refRead_far hno W e w' h
  have hb := prime_bd hp
  obtain ⟨hq1, hq2⟩ := hb
  have g1 : ¬ ((K : Int) < 1) := by omega
  have g1c : ¬ (K < 1) := by omega
  have g1d : ¬ (K = 0) := by omega
  have g2 : ¬ ((N : Int) < (K : Int)) := by omega
  have g2c : ¬ (N < K) := by omega
  have g3 : ¬ (q < (N : Int)) := by omega
  have g1b : decide ((K : Int) < 1) = false := decide_eq_false g1
  have g1e : decide (K < 1) = false := decide_eq_false g1c
  have g1f : decide (K = 0) = false := decide_eq_false g1d
  have g1g : (K == 0) = false := by simp; omega
  have g2b : decide ((N : Int) < (K : Int)) = false := decide_eq_false g2
  have g2d : decide (N < K) = false := decide_eq_false g2c
  have g3b : decide (q < (N : Int)) = false := decide_eq_false g3
  have HN := Lib.hid hN
  clear hN hla ht
  clear hno
  go_enter Try.func3, Try.ntmps3
  go_wp2_with fail
  refine h17.mono ?_
  rintro e w1 ⟨v1, rfl, hs1, hb1⟩
  obtain ⟨A1, c1, rfl, hI⟩ := hs1.lieA HN.out
  clear hs1 h17
  go_wp2_with fail
  refine (c18 _ _ _ hI).mono ?_
  rintro e w2 ⟨v2, rfl, hs2, _, hb2⟩
  obtain ⟨A2, c2, rfl, hJ⟩ := hs2.lieA (n := 0) rfl
  have hI2 := hI.below hb2
  have hb12 := hb1.trans (hb2.mono hb1.size)
  clear hs2 hI hb1 hb2 c18
  go_wp2_with (first | (go_at_call 19; refine (c19 _).mono ?_; rintro e w' ⟨rfl, rfl⟩) | (go_at_call 20; refine (c20 _ _ _ hI2).mono ?_; rintro e w' ⟨rfl, rfl⟩))
  clear c19 c20
  go_loop [11, 12] (fun s i => ∃ j : Nat, j ≤ K ∧ i = .int .i64 j ∧ ∃ x : Int, 1 ≤ x ∧ x ≤ 1000 ∧ s = .int .i64 x) (fun _ i => K - (intOf i).toNat)
  case atStart => exact ⟨0, by omega, rfl, 1, by omega, by omega, rfl⟩
  case round =>
    obtain ⟨j, hj, rfl, x, hx1, hx2, rfl⟩ := hrel
    by_cases hjk : j < K
    · have p1 : 1 ≤ x * q := by have := Int.mul_le_mul hx1 (show (1 : Int) ≤ q by omega) (by omega) (by omega); omega
      have p2 : x * q ≤ 1000 * 31 := Int.mul_le_mul hx2 hq2 (by omega) (by omega)
      by_cases hy : 1000 < x * q
      · have d1 : decide (x * q > 1000) = true := decide_eq_true hy
        go_wp2_with (go_at_call 21; refine (lives_any _).mono ?_; rintro e w4 ⟨rfl, hb4⟩)
        have hbf := hb12.trans (hb4.mono hb12.size)
        go_ret
        exact ⟨rfl, hbf⟩
      · have d1 : decide (x * q > 1000) = false := decide_eq_false hy
        go_wp2
        go_round
        case rel => exact ⟨j + 1, by omega, by go_num, x * q, p1, by omega, rfl⟩
        case measure => simp [intOf]; omega
    · obtain rfl : j = K := by omega
      go_wp2_with fail
      refine (c22 _ _ _ hI2).mono ?_
      rintro e w3 ⟨rfl, hb3⟩
      have hb13 := hb12.trans (hb3.mono hb12.size)
      go_wp2_with (go_at_call 21; refine (lives_any _).mono ?_; rintro e w4 ⟨rfl, hb4⟩)
      have hbf := hb13.trans (hb4.mono hb13.size)
      go_ret
      exact ⟨rfl, hbf⟩
end
end Go.Proofs.Ytneliejncfncdaa

namespace Go.Proofs.Ytneliejncfncdaa
open Go.RowKit

section
variable (q k : Int) (A : Option Addr) (c m : Nat) (p a : List Int) (w : World)

set_option maxRecDepth 100000 in
set_option maxHeartbeats 1600000 in
theorem rds_near (h17 : Calls Try.prog 17 #[.slice A m c, .int .i64 40] w (RetInts a w)) (hla : a.length ≤ 40) (N K t : Nat) (hN : a.length = N) (hK : k = K) (hp : primeB q = true) (h1 : 1 ≤ K) (h2 : K ≤ N) (h3 : (N : Int) ≤ q) (hea : elemB q a = true) (ht : t = (N - K) / 2) (r : List Int) (hr : Near q K t a r) :
    Calls Try.prog 3 #[.int .i64 q, .int .i64 k, .slice A m c] w (Said true w) := by
  subst hK
  have he : readR q K a = (r, ((wrongs q r a N : Nat) : Int), 0) := by
    have := readR_near hp a r hea hr.1 K hr.2.1 h1 (by omega) (by omega) (by have h := hr.2.2; rw [ht] at h; rw [hN] at h ⊢; exact h)
    rwa [hN] at this
  have hrl := hr.2.1
  have hwl := wrongs_le q r a N
  have c18 : ∀ (W : World) A c, Ints W A a → Calls Try.prog 18 #[.int .i64 q, .int .i64 K, .slice A N c] W (Ret3 (readR q K a).1 (readR q K a).2.1 (readR q K a).2.2 W) := fun W A c h1 => by
    have := read_ret q K A c a W h1 (by omega)
    rwa [hN] at this
  rw [he] at c18
  clear he
  have c19 : ∀ W, Calls Try.prog 19 #[.int .i64 q] W fun e w' => e = .returned (.bool true) ∧ W = w' := fun W => by
    have := (refPrime_any q W).mono fun e w' h => (⟨h.1, h.2.symm⟩ : e = .returned (.bool (primeB q)) ∧ W = w')
    rwa [hp] at this
  have c20 : ∀ (W : World) A c, Ints W A a → Calls Try.prog 20 #[.int .i64 q, .slice A N c] W fun e w' => e = .returned (.bool true) ∧ W = w' := fun W A c h => by
    have := (refElements_any q A c N a W (prime_bd hp) h hN (by omega)).mono fun e w' h => (⟨h.1, h.2.symm⟩ : e = .returned (.bool (elemB q a)) ∧ W = w')
    rwa [hea] at this
  have c22 : ∀ (W : World) A c, Ints W A a → Calls Try.prog 22 #[.int .i64 q, .int .i64 K, .slice A N c] W fun e w' => ∃ v, e = .returned (.tuple #[v, .int .i64 (wrongs q r a N : Nat)]) ∧ SlI w' v r ∧ Below W.heap.size W w' := fun W A c h => (refRead_any q K t N A c a W (prime_bd hp) hea h hN (by have := prime_bd hp; omega) h1 h2 ht).mono fun e w' h => refRead_near hp hea hN h1 h2 h3 ht hr W e w' h
  have c23 : ∀ (W : World) A B c d, Ints W A r → Ints W B r → Calls Try.prog 23 #[.slice A K c, .slice B K d] W fun e w' => e = .returned (.bool true) ∧ ∃ z, w' = W.drewN z := fun W A B c d g1 g2 => by
    have := lawsame_any A B K K c d r r W g1 g2 hrl hrl (by omega) (by omega)
    simpa using this
  generalize wrongs q r a N = Wn at *
  have HRL := Lib.hid hrl
  clear hrl hr
  have hb := prime_bd hp
  obtain ⟨hq1, hq2⟩ := hb
  have g1 : ¬ ((K : Int) < 1) := by omega
  have g1c : ¬ (K < 1) := by omega
  have g1d : ¬ (K = 0) := by omega
  have g2 : ¬ ((N : Int) < (K : Int)) := by omega
  have g2c : ¬ (N < K) := by omega
  have g3 : ¬ (q < (N : Int)) := by omega
  have g1b : decide ((K : Int) < 1) = false := decide_eq_false g1
  have g1e : decide (K < 1) = false := decide_eq_false g1c
  have g1f : decide (K = 0) = false := decide_eq_false g1d
  have g1g : (K == 0) = false := by simp; omega
  have g2b : decide ((N : Int) < (K : Int)) = false := decide_eq_false g2
  have g2d : decide (N < K) = false := decide_eq_false g2c
  have g3b : decide (q < (N : Int)) = false := decide_eq_false g3
  have HN := Lib.hid hN
  clear hN hla ht
  go_enter Try.func3, Try.ntmps3
  go_wp2_with fail
  refine h17.mono ?_
  rintro e w1 ⟨v1, rfl, hs1, hb1⟩
  obtain ⟨A1, c1, rfl, hI⟩ := hs1.lieA HN.out
  clear hs1 h17
  go_wp2_with fail
  refine (c18 _ _ _ hI).mono ?_
  rintro e w2 ⟨v2, rfl, hs2, _, hb2⟩
  obtain ⟨A2, c2, rfl, hJ⟩ := hs2.lieA HRL.out
  have hI2 := hI.below hb2
  have hb12 := hb1.trans (hb2.mono hb1.size)
  clear hs2 hI hb1 hb2 c18
  go_wp2_with (first | (go_at_call 19; refine (c19 _).mono ?_; rintro e w' ⟨rfl, rfl⟩) | (go_at_call 20; refine (c20 _ _ _ hI2).mono ?_; rintro e w' ⟨rfl, rfl⟩))
  clear c19 c20
  go_loop [11, 12] (fun s i => ∃ j : Nat, j ≤ K ∧ i = .int .i64 j ∧ ∃ x : Int, 1 ≤ x ∧ x ≤ 1000 ∧ s = .int .i64 x) (fun _ i => K - (intOf i).toNat)
  case atStart => exact ⟨0, by omega, rfl, 1, by omega, by omega, rfl⟩
  case round =>
    obtain ⟨j, hj, rfl, x, hx1, hx2, rfl⟩ := hrel
    by_cases hjk : j < K
    · have p1 : 1 ≤ x * q := by have := Int.mul_le_mul hx1 (show (1 : Int) ≤ q by omega) (by omega) (by omega); omega
      have p2 : x * q ≤ 1000 * 31 := Int.mul_le_mul hx2 hq2 (by omega) (by omega)
      by_cases hy : 1000 < x * q
      · have d1 : decide (x * q > 1000) = true := decide_eq_true hy
        go_wp2_with (go_at_call 21; refine (lives_any _).mono ?_; rintro e w4 ⟨rfl, hb4⟩)
        have hbf := hb12.trans (hb4.mono hb12.size)
        go_ret
        exact ⟨rfl, hbf⟩
      · have d1 : decide (x * q > 1000) = false := decide_eq_false hy
        go_wp2
        go_round
        case rel => exact ⟨j + 1, by omega, by go_num, x * q, p1, by omega, rfl⟩
        case measure => simp [intOf]; omega
    · obtain rfl : j = K := by omega
      go_wp2_with fail
      refine (c22 _ _ _ hI2).mono ?_
      rintro e w3 ⟨v3, rfl, hs3, hb3⟩
      obtain ⟨A3, c3, rfl, hK⟩ := hs3.lieA HRL.out
      have hJ3 := hJ.below hb3
      have hb13 := hb12.trans (hb3.mono hb12.size)
      clear hs3 hb3 hJ c22
      go_wp2_with fail
      refine (c23 _ _ _ _ _ hJ3 hK).mono ?_
      rintro e w5 ⟨rfl, z5, rfl⟩
      go_wp2_with (go_at_call 21; refine (lives_any _).mono ?_; rintro e w6 ⟨rfl, hb6⟩)
      have hbf := (hb13.drewN z5).trans (hb6.mono (hb13.drewN z5).size)
      go_ret
      exact ⟨rfl, hbf⟩
end
end Go.Proofs.Ytneliejncfncdaa

namespace Go.Proofs.Ytneliejncfncdaa
open Go.RowKit

theorem reads_row (q k : Int) (A : Option Addr) (c m : Nat) (p : List Int) (w : World) (_ : I64 q) (_ : I64 k) (hA : Ints w A p) (hn : p.length = m) (hnc : m ≤ c) (hnil : A = none → c = 0) (_ : ∀ x ∈ p, I64 x) :
    Calls Try.prog 3 #[.int .i64 q, .int .i64 k, .slice A m c] w (Said true w) := by
  have h17 := cut_any A m c 40 40 p w hA hn hnc rfl (by omega) hnil
  have hla : (p.take 40).length ≤ 40 := by simp; omega
  generalize p.take 40 = a at *
  by_cases hp : primeB q = true
  · by_cases h1 : 1 ≤ k
    · by_cases h2 : k ≤ (a.length : Int)
      · by_cases h3 : (a.length : Int) ≤ q
        · by_cases hea : elemB q a = true
          · by_cases hno : ∀ r, ¬ Near q k.toNat ((a.length - k.toNat) / 2) a r
            · exact rds_far q k A c m a w h17 hla a.length k.toNat _ rfl (by omega) hp (by omega) (by omega) h3 hea rfl hno
            · rw [Classical.not_forall] at hno
              obtain ⟨r, hr⟩ := hno
              exact rds_near q k A c m a w h17 hla a.length k.toNat _ rfl (by omega) hp (by omega) (by omega) h3 hea rfl r (Classical.not_not.1 hr)
          · exact rds_out q k A c m a w h17 hla hp h1 h2 h3 (by simpa using hea)
        · exact rds_long q k A c m a w h17 hla hp h1 h2 (by omega)
      · exact rds_short q k A c m a w h17 hla hp h1 (by omega)
    · exact rds_small q k A c m a w h17 hla hp (by omega)
  · exact rds_noprime q k A c m a w h17 hla (by simpa using hp)
end Go.Proofs.Ytneliejncfncdaa
