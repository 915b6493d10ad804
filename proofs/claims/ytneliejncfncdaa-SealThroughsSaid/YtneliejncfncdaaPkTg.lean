/- Texts Tg Tga Tgb Tgc Tgd Tge Tgf Tgg Tgh Th in one. -/
import Derived.Test.YtneliejncfncdaaPkTf
import Derived.Test.YtneliejncfncdaaPkFa
namespace Go.Proofs.Ytneliejncfncdaa
open Go.RowKit

def ndB (xs : List Int) (i : Nat) : Bool := decide (xs.take i).Nodup
def freshB (xs : List Int) (i j : Nat) : Bool := decide (xs.getD i 0 ∉ xs.take j)
theorem ndB_zero (xs : List Int) : ndB xs 0 = true := by simp [ndB]
theorem freshB_zero (xs : List Int) (i : Nat) : freshB xs i 0 = true := by simp [freshB]
theorem ndB_succ {xs : List Int} {i : Nat} (h : i < xs.length) (hn : ndB xs i = true) : ndB xs (i + 1) = freshB xs i i := by
  unfold ndB freshB at *
  rw [show xs.getD i 0 = xs[i] by simp [List.getD, h]]
  have hn' := of_decide_eq_true hn
  by_cases hx : xs[i] ∈ xs.take i
  · have e1 : decide (xs.take (i + 1)).Nodup = false := by
      refine decide_eq_false fun h2 => ?_
      rw [List.take_succ_eq_append_getElem h, List.nodup_append] at h2
      exact h2.2.2 _ hx _ (by simp) rfl
    have e2 : decide (xs[i] ∉ xs.take i) = false := decide_eq_false fun h3 => h3 hx
    rw [e1, e2]
  · rw [decide_eq_true hx]
    exact decide_eq_true (take_nodup h hn' hx)
theorem freshB_succ {xs : List Int} {i j : Nat} (h : j < xs.length) : freshB xs i (j + 1) = (freshB xs i j && decide (xs.getD i 0 ≠ xs.getD j 0)) := by
  unfold freshB
  rw [List.take_succ_eq_append_getElem h, show xs.getD j 0 = xs[j] by simp [List.getD, h]]
  simp only [List.mem_append, List.mem_singleton, not_or, Bool.decide_and]
theorem ndB_all {xs : List Int} {n : Nat} (h : xs.length ≤ n) : ndB xs n = decide xs.Nodup := by
  unfold ndB
  rw [List.take_of_length_le h]
theorem throughR_bad (q : Int) (a b : List Int) (h : (primeB q && elemB q a && elemB q b && (decide (a.length = b.length) && decide (1 ≤ a.length) && decide ((a.length : Int) ≤ q)) && decide a.Nodup) = false) : throughR q a b = ([], 1) := by
  unfold throughR
  rw [h]
  rfl
theorem throughR_ok (q : Int) (a b : List Int) (h1 : primeB q = true) (h2 : elemB q a = true) (h3 : elemB q b = true) (h4 : a.length = b.length) (h5 : 1 ≤ a.length) (h6 : (a.length : Int) ≤ q) (h7 : a.Nodup) : throughR q a b = (lagOut q a b a.length a.length, 0) := by
  unfold throughR
  rw [h1, h2, h3, decide_eq_true h4, decide_eq_true h5, decide_eq_true h6, decide_eq_true h7, ← through_eq h1 h2 h3 rfl h7]
  rfl

end Go.Proofs.Ytneliejncfncdaa

namespace Go.Proofs.Ytneliejncfncdaa
open Go.RowKit
section
variable (q : Int) (A C : Option Addr) (c d m n : Nat) (p r a b : List Int) (w : World)

set_option maxRecDepth 100000 in
set_option maxHeartbeats 1600000 in
theorem thr_noprime (hC : Ints w C r) (h17a : Calls Try.prog 17 #[.slice A m c, .int .i64 34] w (RetInts a w)) (h17b : ∀ W, Ints W C r → Calls Try.prog 17 #[.slice C n d, .int .i64 34] W (RetInts b W)) (hla : a.length ≤ 34) (hlb : b.length ≤ 34) (hp : primeB q = false) :
    Calls Try.prog 9 #[.int .i64 q, .slice A m c, .slice C n d] w (Said true w) := by
  have he : throughR q a b = ([], 1) := throughR_bad _ _ _ (by rw [hp]; rfl)
  have c40 : ∀ (W : World) A C c d, Ints W A a → Ints W C b → Calls Try.prog 40 #[.int .i64 q, .slice A a.length c, .slice C b.length d] W (RetL (throughR q a b).1 (throughR q a b).2 W) := fun W A C c d h1 h2 => through_ret q A C c d a b W h1 h2 (by omega) (by omega)
  rw [he] at c40
  clear he
  have c19 : ∀ W, Calls Try.prog 19 #[.int .i64 q] W fun e w' => e = .returned (.bool false) ∧ W = w' := fun W => by
    have := (refPrime_any q W).mono fun e w' h => (⟨h.1, h.2.symm⟩ : e = .returned (.bool (primeB q)) ∧ W = w')
    rwa [hp] at this
  go_enter Try.func9, Try.ntmps9
  go_wp2_with fail
  refine h17a.mono ?_
  rintro e w1 ⟨v1, rfl, hs1, hb1⟩
  obtain ⟨A1, c1, rfl, hI⟩ := hs1.lieA rfl
  have hC1 := hC.below hb1
  clear hs1 h17a
  go_wp2_with fail
  refine (h17b _ hC1).mono ?_
  rintro e w2 ⟨v2, rfl, hs2, hb2⟩
  obtain ⟨A2, c2, rfl, hJ⟩ := hs2.lieA rfl
  have hI2 := hI.below hb2
  have hb12 := hb1.trans (hb2.mono hb1.size)
  clear hs2 h17b hC1 hI hb1 hb2 hC
  go_wp2_with fail
  refine (c40 _ _ _ _ _ hI2 hJ).mono ?_
  rintro e w3 ⟨v3, rfl, hs3, _, hb3⟩
  obtain ⟨A3, c3, rfl, hP⟩ := hs3.lieA rfl
  have hI3 := hI2.below hb3
  have hJ3 := hJ.below hb3
  have hb13 := hb12.trans (hb3.mono hb12.size)
  clear hs3 c40 hI2 hJ hb12 hb3
  go_wp2_with ((go_at_call 19; refine (c19 _).mono ?_; rintro e w' ⟨rfl, rfl⟩))
  go_loop [11, 12] (fun s i => s = .bool false ∧ i = .int .i64 0) (fun _ _ => 0)
  case atStart => exact ⟨rfl, rfl⟩
  case round =>
    obtain ⟨rfl, rfl⟩ := hrel
    go_wp2_with (go_at_call 21; refine (lives_any _).mono ?_; rintro e w4 ⟨rfl, hb4⟩)
    all_goals
      have hbf := hb13.trans (hb4.mono hb13.size)
      go_ret
      exact ⟨rfl, hbf⟩

end
end Go.Proofs.Ytneliejncfncdaa

namespace Go.Proofs.Ytneliejncfncdaa
open Go.RowKit
section
variable (q : Int) (A C : Option Addr) (c d m n : Nat) (p r a b : List Int) (w : World)

set_option maxRecDepth 100000 in
set_option maxHeartbeats 1600000 in
theorem thr_uneq (hC : Ints w C r) (h17a : Calls Try.prog 17 #[.slice A m c, .int .i64 34] w (RetInts a w)) (h17b : ∀ W, Ints W C r → Calls Try.prog 17 #[.slice C n d, .int .i64 34] W (RetInts b W)) (hla : a.length ≤ 34) (hlb : b.length ≤ 34) (hp : primeB q = true) (hne : a.length ≠ b.length) :
    Calls Try.prog 9 #[.int .i64 q, .slice A m c, .slice C n d] w (Said true w) := by
  have he : throughR q a b = ([], 1) := throughR_bad _ _ _ (by rw [decide_eq_false hne]; simp)
  have c40 : ∀ (W : World) A C c d, Ints W A a → Ints W C b → Calls Try.prog 40 #[.int .i64 q, .slice A a.length c, .slice C b.length d] W (RetL (throughR q a b).1 (throughR q a b).2 W) := fun W A C c d h1 h2 => through_ret q A C c d a b W h1 h2 (by omega) (by omega)
  rw [he] at c40
  clear he
  have c19 : ∀ W, Calls Try.prog 19 #[.int .i64 q] W fun e w' => e = .returned (.bool true) ∧ W = w' := fun W => by
    have := (refPrime_any q W).mono fun e w' h => (⟨h.1, h.2.symm⟩ : e = .returned (.bool (primeB q)) ∧ W = w')
    rwa [hp] at this
  have e0 : ((a.length : Int) == (b.length : Int)) = false := by simp; omega
  have e0b : (a.length == b.length) = false := by simp; omega
  clear hne
  go_enter Try.func9, Try.ntmps9
  go_wp2_with fail
  refine h17a.mono ?_
  rintro e w1 ⟨v1, rfl, hs1, hb1⟩
  obtain ⟨A1, c1, rfl, hI⟩ := hs1.lieA rfl
  have hC1 := hC.below hb1
  clear hs1 h17a
  go_wp2_with fail
  refine (h17b _ hC1).mono ?_
  rintro e w2 ⟨v2, rfl, hs2, hb2⟩
  obtain ⟨A2, c2, rfl, hJ⟩ := hs2.lieA rfl
  have hI2 := hI.below hb2
  have hb12 := hb1.trans (hb2.mono hb1.size)
  clear hs2 h17b hC1 hI hb1 hb2 hC
  go_wp2_with fail
  refine (c40 _ _ _ _ _ hI2 hJ).mono ?_
  rintro e w3 ⟨v3, rfl, hs3, _, hb3⟩
  obtain ⟨A3, c3, rfl, hP⟩ := hs3.lieA rfl
  have hI3 := hI2.below hb3
  have hJ3 := hJ.below hb3
  have hb13 := hb12.trans (hb3.mono hb12.size)
  clear hs3 c40 hI2 hJ hb12 hb3
  go_wp2_with ((go_at_call 19; refine (c19 _).mono ?_; rintro e w' ⟨rfl, rfl⟩))
  go_loop [11, 12] (fun s i => s = .bool false ∧ i = .int .i64 0) (fun _ _ => 0)
  case atStart => exact ⟨rfl, rfl⟩
  case round =>
    obtain ⟨rfl, rfl⟩ := hrel
    go_wp2_with (go_at_call 21; refine (lives_any _).mono ?_; rintro e w4 ⟨rfl, hb4⟩)
    all_goals
      have hbf := hb13.trans (hb4.mono hb13.size)
      go_ret
      exact ⟨rfl, hbf⟩

end
end Go.Proofs.Ytneliejncfncdaa

namespace Go.Proofs.Ytneliejncfncdaa
open Go.RowKit
section
variable (q : Int) (A C : Option Addr) (c d m n : Nat) (p r a b : List Int) (w : World)

set_option maxRecDepth 100000 in
set_option maxHeartbeats 1600000 in
theorem thr_empty (hC : Ints w C r) (h17a : Calls Try.prog 17 #[.slice A m c, .int .i64 34] w (RetInts a w)) (h17b : ∀ W, Ints W C r → Calls Try.prog 17 #[.slice C n d, .int .i64 34] W (RetInts b W)) (hla : a.length ≤ 34) (hlb : b.length ≤ 34) (hp : primeB q = true) (hne : a.length = b.length) (h1 : a.length = 0) :
    Calls Try.prog 9 #[.int .i64 q, .slice A m c, .slice C n d] w (Said true w) := by
  have he : throughR q a b = ([], 1) := throughR_bad _ _ _ (by rw [decide_eq_false (show ¬ 1 ≤ a.length by omega)]; simp)
  have c40 : ∀ (W : World) A C c d, Ints W A a → Ints W C b → Calls Try.prog 40 #[.int .i64 q, .slice A a.length c, .slice C b.length d] W (RetL (throughR q a b).1 (throughR q a b).2 W) := fun W A C c d h1 h2 => through_ret q A C c d a b W h1 h2 (by omega) (by omega)
  rw [he] at c40
  clear he
  obtain rfl : b = [] := List.eq_nil_of_length_eq_zero (by omega)
  obtain rfl : a = [] := List.eq_nil_of_length_eq_zero h1
  simp only [List.length_nil] at c40
  clear h1 hne hla hlb
  have c19 : ∀ W, Calls Try.prog 19 #[.int .i64 q] W fun e w' => e = .returned (.bool true) ∧ W = w' := fun W => by
    have := (refPrime_any q W).mono fun e w' h => (⟨h.1, h.2.symm⟩ : e = .returned (.bool (primeB q)) ∧ W = w')
    rwa [hp] at this
  go_enter Try.func9, Try.ntmps9
  go_wp2_with fail
  refine h17a.mono ?_
  rintro e w1 ⟨v1, rfl, hs1, hb1⟩
  obtain ⟨A1, c1, rfl, hI⟩ := hs1.lieA (n := 0) rfl
  have hC1 := hC.below hb1
  clear hs1 h17a
  go_wp2_with fail
  refine (h17b _ hC1).mono ?_
  rintro e w2 ⟨v2, rfl, hs2, hb2⟩
  obtain ⟨A2, c2, rfl, hJ⟩ := hs2.lieA (n := 0) rfl
  have hI2 := hI.below hb2
  have hb12 := hb1.trans (hb2.mono hb1.size)
  clear hs2 h17b hC1 hI hb1 hb2 hC
  go_wp2_with fail
  refine (c40 _ _ _ _ _ hI2 hJ).mono ?_
  rintro e w3 ⟨v3, rfl, hs3, _, hb3⟩
  obtain ⟨A3, c3, rfl, hP⟩ := hs3.lieA (n := 0) rfl
  have hI3 := hI2.below hb3
  have hJ3 := hJ.below hb3
  have hb13 := hb12.trans (hb3.mono hb12.size)
  clear hs3 c40 hI2 hJ hb12 hb3
  go_wp2_with (go_at_call 19; refine (c19 _).mono ?_; rintro e w' ⟨rfl, rfl⟩)
  go_loop [11, 12] (fun s i => s = .bool false ∧ i = .int .i64 0) (fun _ _ => 0)
  case atStart => exact ⟨rfl, rfl⟩
  case round =>
    obtain ⟨rfl, rfl⟩ := hrel
    go_wp2_with (go_at_call 21; refine (lives_any _).mono ?_; rintro e w4 ⟨rfl, hb4⟩)
    all_goals
      have hbf := hb13.trans (hb4.mono hb13.size)
      go_ret
      exact ⟨rfl, hbf⟩

end
end Go.Proofs.Ytneliejncfncdaa

namespace Go.Proofs.Ytneliejncfncdaa
open Go.RowKit
section
variable (q : Int) (A C : Option Addr) (c d m n : Nat) (p r a b : List Int) (w : World)

set_option maxRecDepth 100000 in
set_option maxHeartbeats 1600000 in
theorem thr_long (hC : Ints w C r) (h17a : Calls Try.prog 17 #[.slice A m c, .int .i64 34] w (RetInts a w)) (h17b : ∀ W, Ints W C r → Calls Try.prog 17 #[.slice C n d, .int .i64 34] W (RetInts b W)) (hla : a.length ≤ 34) (hlb : b.length ≤ 34) (hp : primeB q = true) (hne : a.length = b.length) (h1 : 1 ≤ a.length) (h2 : q < (a.length : Int)) :
    Calls Try.prog 9 #[.int .i64 q, .slice A m c, .slice C n d] w (Said true w) := by
  have he : throughR q a b = ([], 1) := throughR_bad _ _ _ (by rw [decide_eq_false (show ¬ (a.length : Int) ≤ q by omega)]; simp)
  have c40 : ∀ (W : World) A C c d, Ints W A a → Ints W C b → Calls Try.prog 40 #[.int .i64 q, .slice A a.length c, .slice C b.length d] W (RetL (throughR q a b).1 (throughR q a b).2 W) := fun W A C c d h1 h2 => through_ret q A C c d a b W h1 h2 (by omega) (by omega)
  rw [he] at c40
  clear he
  have c19 : ∀ W, Calls Try.prog 19 #[.int .i64 q] W fun e w' => e = .returned (.bool true) ∧ W = w' := fun W => by
    have := (refPrime_any q W).mono fun e w' h => (⟨h.1, h.2.symm⟩ : e = .returned (.bool (primeB q)) ∧ W = w')
    rwa [hp] at this
  have e1 : decide (1 ≤ a.length) = true := decide_eq_true h1
  have e1b : decide ((1 : Int) ≤ (a.length : Int)) = true := decide_eq_true (by omega)
  have e1c : ¬ (a.length < 1) := by omega
  have e1d : ¬ ((a.length : Int) < 1) := by omega
  have e1e : ¬ (a.length = 0) := by omega
  have e2 : decide ((a.length : Int) ≤ q) = false := decide_eq_false (by omega)
  have e0 : ((a.length : Int) == (b.length : Int)) = true := by simp; omega
  have e0b : (a.length == b.length) = true := by simp; omega
  clear hne
  go_enter Try.func9, Try.ntmps9
  go_wp2_with fail
  refine h17a.mono ?_
  rintro e w1 ⟨v1, rfl, hs1, hb1⟩
  obtain ⟨A1, c1, rfl, hI⟩ := hs1.lieA rfl
  have hC1 := hC.below hb1
  clear hs1 h17a
  go_wp2_with fail
  refine (h17b _ hC1).mono ?_
  rintro e w2 ⟨v2, rfl, hs2, hb2⟩
  obtain ⟨A2, c2, rfl, hJ⟩ := hs2.lieA rfl
  have hI2 := hI.below hb2
  have hb12 := hb1.trans (hb2.mono hb1.size)
  clear hs2 h17b hC1 hI hb1 hb2 hC
  go_wp2_with fail
  refine (c40 _ _ _ _ _ hI2 hJ).mono ?_
  rintro e w3 ⟨v3, rfl, hs3, _, hb3⟩
  obtain ⟨A3, c3, rfl, hP⟩ := hs3.lieA rfl
  have hI3 := hI2.below hb3
  have hJ3 := hJ.below hb3
  have hb13 := hb12.trans (hb3.mono hb12.size)
  clear hs3 c40 hI2 hJ hb12 hb3
  go_wp2_with ((go_at_call 19; refine (c19 _).mono ?_; rintro e w' ⟨rfl, rfl⟩))
  go_loop [11, 12] (fun s i => s = .bool false ∧ i = .int .i64 0) (fun _ _ => 0)
  case atStart => exact ⟨rfl, rfl⟩
  case round =>
    obtain ⟨rfl, rfl⟩ := hrel
    go_wp2_with (go_at_call 21; refine (lives_any _).mono ?_; rintro e w4 ⟨rfl, hb4⟩)
    all_goals
      have hbf := hb13.trans (hb4.mono hb13.size)
      go_ret
      exact ⟨rfl, hbf⟩

end
end Go.Proofs.Ytneliejncfncdaa

namespace Go.Proofs.Ytneliejncfncdaa
open Go.RowKit
section
variable (q : Int) (A C : Option Addr) (c d m n : Nat) (p r a b : List Int) (w : World)

set_option maxRecDepth 100000 in
set_option maxHeartbeats 1600000 in
theorem thr_outx (hC : Ints w C r) (h17a : Calls Try.prog 17 #[.slice A m c, .int .i64 34] w (RetInts a w)) (h17b : ∀ W, Ints W C r → Calls Try.prog 17 #[.slice C n d, .int .i64 34] W (RetInts b W)) (hla : a.length ≤ 34) (hlb : b.length ≤ 34) (hp : primeB q = true) (hne : a.length = b.length) (h1 : 1 ≤ a.length) (h2 : (a.length : Int) ≤ q) (hea : elemB q a = false) :
    Calls Try.prog 9 #[.int .i64 q, .slice A m c, .slice C n d] w (Said true w) := by
  have he : throughR q a b = ([], 1) := throughR_bad _ _ _ (by rw [hea]; simp)
  have c40 : ∀ (W : World) A C c d, Ints W A a → Ints W C b → Calls Try.prog 40 #[.int .i64 q, .slice A a.length c, .slice C b.length d] W (RetL (throughR q a b).1 (throughR q a b).2 W) := fun W A C c d h1 h2 => through_ret q A C c d a b W h1 h2 (by omega) (by omega)
  rw [he] at c40
  clear he
  have c19 : ∀ W, Calls Try.prog 19 #[.int .i64 q] W fun e w' => e = .returned (.bool true) ∧ W = w' := fun W => by
    have := (refPrime_any q W).mono fun e w' h => (⟨h.1, h.2.symm⟩ : e = .returned (.bool (primeB q)) ∧ W = w')
    rwa [hp] at this
  have c20a : ∀ (W : World) A c, Ints W A a → Calls Try.prog 20 #[.int .i64 q, .slice A a.length c] W fun e w' => e = .returned (.bool false) ∧ W = w' := fun W A c h => by
    have := (refElements_any q A c a.length a W (prime_bd hp) h rfl (by omega)).mono fun e w' h => (⟨h.1, h.2.symm⟩ : e = .returned (.bool (elemB q a)) ∧ W = w')
    rwa [hea] at this
  have e1 : decide (1 ≤ a.length) = true := decide_eq_true h1
  have e1b : decide ((1 : Int) ≤ (a.length : Int)) = true := decide_eq_true (by omega)
  have e1c : ¬ (a.length < 1) := by omega
  have e1d : ¬ ((a.length : Int) < 1) := by omega
  have e1e : ¬ (a.length = 0) := by omega
  have e2 : decide ((a.length : Int) ≤ q) = true := decide_eq_true h2
  have e0 : ((a.length : Int) == (b.length : Int)) = true := by simp; omega
  have e0b : (a.length == b.length) = true := by simp; omega
  clear hne
  go_enter Try.func9, Try.ntmps9
  go_wp2_with fail
  refine h17a.mono ?_
  rintro e w1 ⟨v1, rfl, hs1, hb1⟩
  obtain ⟨A1, c1, rfl, hI⟩ := hs1.lieA rfl
  have hC1 := hC.below hb1
  clear hs1 h17a
  go_wp2_with fail
  refine (h17b _ hC1).mono ?_
  rintro e w2 ⟨v2, rfl, hs2, hb2⟩
  obtain ⟨A2, c2, rfl, hJ⟩ := hs2.lieA rfl
  have hI2 := hI.below hb2
  have hb12 := hb1.trans (hb2.mono hb1.size)
  clear hs2 h17b hC1 hI hb1 hb2 hC
  go_wp2_with fail
  refine (c40 _ _ _ _ _ hI2 hJ).mono ?_
  rintro e w3 ⟨v3, rfl, hs3, _, hb3⟩
  obtain ⟨A3, c3, rfl, hP⟩ := hs3.lieA rfl
  have hI3 := hI2.below hb3
  have hJ3 := hJ.below hb3
  have hb13 := hb12.trans (hb3.mono hb12.size)
  clear hs3 c40 hI2 hJ hb12 hb3
  go_wp2_with (first | (go_at_call 19; refine (c19 _).mono ?_; rintro e w' ⟨rfl, rfl⟩) | (go_at_call 20; refine (c20a _ _ _ hI3).mono ?_; rintro e w' ⟨rfl, rfl⟩))
  go_loop [11, 12] (fun s i => s = .bool false ∧ i = .int .i64 0) (fun _ _ => 0)
  case atStart => exact ⟨rfl, rfl⟩
  case round =>
    obtain ⟨rfl, rfl⟩ := hrel
    go_wp2_with (go_at_call 21; refine (lives_any _).mono ?_; rintro e w4 ⟨rfl, hb4⟩)
    all_goals
      have hbf := hb13.trans (hb4.mono hb13.size)
      go_ret
      exact ⟨rfl, hbf⟩

end
end Go.Proofs.Ytneliejncfncdaa

namespace Go.Proofs.Ytneliejncfncdaa
open Go.RowKit
section
variable (q : Int) (A C : Option Addr) (c d m n : Nat) (p r a b : List Int) (w : World)

set_option maxRecDepth 100000 in
set_option maxHeartbeats 1600000 in
theorem thr_outy (hC : Ints w C r) (h17a : Calls Try.prog 17 #[.slice A m c, .int .i64 34] w (RetInts a w)) (h17b : ∀ W, Ints W C r → Calls Try.prog 17 #[.slice C n d, .int .i64 34] W (RetInts b W)) (hla : a.length ≤ 34) (hlb : b.length ≤ 34) (hp : primeB q = true) (hne : a.length = b.length) (h1 : 1 ≤ a.length) (h2 : (a.length : Int) ≤ q) (hea : elemB q a = true) (heb : elemB q b = false) :
    Calls Try.prog 9 #[.int .i64 q, .slice A m c, .slice C n d] w (Said true w) := by
  have he : throughR q a b = ([], 1) := throughR_bad _ _ _ (by rw [heb]; simp)
  have c40 : ∀ (W : World) A C c d, Ints W A a → Ints W C b → Calls Try.prog 40 #[.int .i64 q, .slice A a.length c, .slice C b.length d] W (RetL (throughR q a b).1 (throughR q a b).2 W) := fun W A C c d h1 h2 => through_ret q A C c d a b W h1 h2 (by omega) (by omega)
  rw [he] at c40
  clear he
  have c19 : ∀ W, Calls Try.prog 19 #[.int .i64 q] W fun e w' => e = .returned (.bool true) ∧ W = w' := fun W => by
    have := (refPrime_any q W).mono fun e w' h => (⟨h.1, h.2.symm⟩ : e = .returned (.bool (primeB q)) ∧ W = w')
    rwa [hp] at this
  have c20a : ∀ (W : World) A c, Ints W A a → Calls Try.prog 20 #[.int .i64 q, .slice A a.length c] W fun e w' => e = .returned (.bool true) ∧ W = w' := fun W A c h => by
    have := (refElements_any q A c a.length a W (prime_bd hp) h rfl (by omega)).mono fun e w' h => (⟨h.1, h.2.symm⟩ : e = .returned (.bool (elemB q a)) ∧ W = w')
    rwa [hea] at this
  have c20b : ∀ (W : World) A c, Ints W A b → Calls Try.prog 20 #[.int .i64 q, .slice A b.length c] W fun e w' => e = .returned (.bool false) ∧ W = w' := fun W A c h => by
    have := (refElements_any q A c b.length b W (prime_bd hp) h rfl (by omega)).mono fun e w' h => (⟨h.1, h.2.symm⟩ : e = .returned (.bool (elemB q b)) ∧ W = w')
    rwa [heb] at this
  have e1 : decide (1 ≤ a.length) = true := decide_eq_true h1
  have e1b : decide ((1 : Int) ≤ (a.length : Int)) = true := decide_eq_true (by omega)
  have e1c : ¬ (a.length < 1) := by omega
  have e1d : ¬ ((a.length : Int) < 1) := by omega
  have e1e : ¬ (a.length = 0) := by omega
  have e2 : decide ((a.length : Int) ≤ q) = true := decide_eq_true h2
  have e0 : ((a.length : Int) == (b.length : Int)) = true := by simp; omega
  have e0b : (a.length == b.length) = true := by simp; omega
  clear hne
  go_enter Try.func9, Try.ntmps9
  go_wp2_with fail
  refine h17a.mono ?_
  rintro e w1 ⟨v1, rfl, hs1, hb1⟩
  obtain ⟨A1, c1, rfl, hI⟩ := hs1.lieA rfl
  have hC1 := hC.below hb1
  clear hs1 h17a
  go_wp2_with fail
  refine (h17b _ hC1).mono ?_
  rintro e w2 ⟨v2, rfl, hs2, hb2⟩
  obtain ⟨A2, c2, rfl, hJ⟩ := hs2.lieA rfl
  have hI2 := hI.below hb2
  have hb12 := hb1.trans (hb2.mono hb1.size)
  clear hs2 h17b hC1 hI hb1 hb2 hC
  go_wp2_with fail
  refine (c40 _ _ _ _ _ hI2 hJ).mono ?_
  rintro e w3 ⟨v3, rfl, hs3, _, hb3⟩
  obtain ⟨A3, c3, rfl, hP⟩ := hs3.lieA rfl
  have hI3 := hI2.below hb3
  have hJ3 := hJ.below hb3
  have hb13 := hb12.trans (hb3.mono hb12.size)
  clear hs3 c40 hI2 hJ hb12 hb3
  go_wp2_with (go_at_call 19; refine (c19 _).mono ?_; rintro e w' ⟨rfl, rfl⟩)
  refine (c20a _ _ _ hI3).mono ?_
  rintro e w' ⟨rfl, rfl⟩
  go_wp2_with fail
  refine (c20b _ _ _ hJ3).mono ?_
  rintro e w' ⟨rfl, rfl⟩
  go_wp2_with fail
  go_loop [11, 12] (fun s i => s = .bool false ∧ i = .int .i64 0) (fun _ _ => 0)
  case atStart => exact ⟨rfl, rfl⟩
  case round =>
    obtain ⟨rfl, rfl⟩ := hrel
    go_wp2_with (go_at_call 21; refine (lives_any _).mono ?_; rintro e w4 ⟨rfl, hb4⟩)
    all_goals
      have hbf := hb13.trans (hb4.mono hb13.size)
      go_ret
      exact ⟨rfl, hbf⟩

end
end Go.Proofs.Ytneliejncfncdaa

namespace Go.Proofs.Ytneliejncfncdaa
open Go.RowKit
section
variable (q : Int) (A C : Option Addr) (c d m n : Nat) (p r a b : List Int) (w : World)

set_option maxRecDepth 100000 in
set_option maxHeartbeats 1600000 in
theorem thr_dup (hC : Ints w C r) (h17a : Calls Try.prog 17 #[.slice A m c, .int .i64 34] w (RetInts a w)) (h17b : ∀ W, Ints W C r → Calls Try.prog 17 #[.slice C n d, .int .i64 34] W (RetInts b W)) (hla : a.length ≤ 34) (hlb : b.length ≤ 34) (L : Nat) (hLa : a.length = L) (hLb : b.length = L) (hp : primeB q = true) (h1 : 1 ≤ L) (h2 : (L : Int) ≤ q) (hea : elemB q a = true) (heb : elemB q b = true) (hnd : ¬ a.Nodup) :
    Calls Try.prog 9 #[.int .i64 q, .slice A m c, .slice C n d] w (Said true w) := by
  have he : throughR q a b = ([], 1) := throughR_bad _ _ _ (by rw [decide_eq_false hnd]; simp)
  have hN : ndB a L = false := by rw [ndB_all (by omega)]; exact decide_eq_false hnd
  have c40 : ∀ (W : World) A C c d, Ints W A a → Ints W C b → Calls Try.prog 40 #[.int .i64 q, .slice A a.length c, .slice C b.length d] W (RetL (throughR q a b).1 (throughR q a b).2 W) := fun W A C c d h1 h2 => through_ret q A C c d a b W h1 h2 (by omega) (by omega)
  rw [he] at c40
  clear he
  simp only [hLa, hLb] at c40
  have c19 : ∀ W, Calls Try.prog 19 #[.int .i64 q] W fun e w' => e = .returned (.bool true) ∧ W = w' := fun W => by
    have := (refPrime_any q W).mono fun e w' h => (⟨h.1, h.2.symm⟩ : e = .returned (.bool (primeB q)) ∧ W = w')
    rwa [hp] at this
  have c20a : ∀ (W : World) A c, Ints W A a → Calls Try.prog 20 #[.int .i64 q, .slice A L c] W fun e w' => e = .returned (.bool true) ∧ W = w' := fun W A c h => by
    have := (refElements_any q A c L a W (prime_bd hp) h hLa (by omega)).mono fun e w' h => (⟨h.1, h.2.symm⟩ : e = .returned (.bool (elemB q a)) ∧ W = w')
    rwa [hea] at this
  have c20b : ∀ (W : World) A c, Ints W A b → Calls Try.prog 20 #[.int .i64 q, .slice A L c] W fun e w' => e = .returned (.bool true) ∧ W = w' := fun W A c h => by
    have := (refElements_any q A c L b W (prime_bd hp) h hLb (by omega)).mono fun e w' h => (⟨h.1, h.2.symm⟩ : e = .returned (.bool (elemB q b)) ∧ W = w')
    rwa [heb] at this
  have e1 : decide (1 ≤ L) = true := decide_eq_true h1
  have e1b : decide ((1 : Int) ≤ (L : Int)) = true := decide_eq_true (by omega)
  have e1c : ¬ (L < 1) := by omega
  have e2 : decide ((L : Int) ≤ q) = true := decide_eq_true h2
  have hq31 := (prime_bd hp).2
  have HLA := Lib.hid hLa
  have HLB := Lib.hid hLb
  have HN := Lib.hid hN
  clear hLa hLb hN hla hlb hnd
  go_enter Try.func9, Try.ntmps9
  go_wp2_with fail
  refine h17a.mono ?_
  rintro e w1 ⟨v1, rfl, hs1, hb1⟩
  obtain ⟨A1, c1, rfl, hI⟩ := hs1.lieA HLA.out
  have hC1 := hC.below hb1
  clear hs1 h17a
  go_wp2_with fail
  refine (h17b _ hC1).mono ?_
  rintro e w2 ⟨v2, rfl, hs2, hb2⟩
  obtain ⟨A2, c2, rfl, hJ⟩ := hs2.lieA HLB.out
  have hI2 := hI.below hb2
  have hb12 := hb1.trans (hb2.mono hb1.size)
  clear hs2 h17b hC1 hI hb1 hb2 hC
  go_wp2_with fail
  refine (c40 _ _ _ _ _ hI2 hJ).mono ?_
  rintro e w3 ⟨v3, rfl, hs3, _, hb3⟩
  obtain ⟨A3, c3, rfl, hP⟩ := hs3.lieA rfl
  have hI3 := hI2.below hb3
  have hJ3 := hJ.below hb3
  have hb13 := hb12.trans (hb3.mono hb12.size)
  clear hs3 c40 hI2 hJ hb12 hb3
  go_wp2_with (go_at_call 19; refine (c19 _).mono ?_; rintro e w' ⟨rfl, rfl⟩)
  refine (c20a _ _ _ hI3).mono ?_
  rintro e w' ⟨rfl, rfl⟩
  go_wp2_with fail
  refine (c20b _ _ _ hJ3).mono ?_
  rintro e w' ⟨rfl, rfl⟩
  go_wp2_with fail
  clear c19 c20a c20b
  obtain ⟨ndB', hndB⟩ : ∃ f : Nat → Bool, f = ndB a := ⟨_, rfl⟩
  rw [← hndB] at HN
  have hn0 : ndB' 0 = true := by rw [hndB]; exact ndB_zero a
  have HNB := Lib.hid hndB
  clear hndB
  go_loopw [11, 12] (fun s i wr => ∃ k : Nat, k ≤ L ∧ i = .int .i64 k ∧ s = .bool (ndB' k) ∧ ∃ z, wr = w3.drewN z) (fun _ i _ => L - (intOf i).toNat)
  case atStart => exact ⟨0, by omega, rfl, by rw [hn0], 0, rfl⟩
  case round =>
    clear hn0
    obtain ⟨k, hk, rfl, rfl, z, rfl⟩ := hrel
    have hends : k = L ∨ k < L := by omega
    rcases Bool.eq_false_or_eq_true (ndB' k) with hkt | hkf
    · by_cases hlt : k < L
      · rw [hkt]
        obtain ⟨g, o, rfl, hg, hcell⟩ := (hI3.drewN z).get (k := k) (by rw [HLA.out]; exact hlt)
        have hxk : a.getD k 0 = a[k]'(by rw [HLA.out]; exact hlt) := by simp [List.getD, show k < a.length by rw [HLA.out]; exact hlt]
        rw [← hxk] at hcell
        have hsucc : ndB' (k + 1) = freshB a k k := by
          have e := ndB_succ (xs := a) (i := k) (by rw [HLA.out]; exact hlt) (by have := HNB.out; rw [← this]; exact hkt)
          rw [HNB.out]; exact e
        have hfs := fun (j : Nat) (hj : j < k) => freshB_succ (xs := a) (i := k) (j := j) (by rw [HLA.out]; omega)
        have hf0 := freshB_zero a k
        generalize freshB a k = fr at *
        have hcells : ∀ j, j < k → w3.cell? ⟨g, o + j, none⟩ = some (.int .i64 (a.getD j 0)) := fun j hj => by
          obtain ⟨g', o', he, _, hc⟩ := hI3.get (k := j) (by rw [HLA.out]; omega)
          cases he
          rw [hc]
          simp [List.getD, show j < a.length by rw [HLA.out]; omega]
        generalize a.getD k 0 = x at *
        have HC := Lib.hid hcells
        have HS := Lib.hid hsucc
        have HF := Lib.hid hfs
        have HXK := Lib.hid hxk
        have hcell0 : w3.cell? ⟨g, o + k, none⟩ = some (.int .i64 x) := hcell
        clear hcells hsucc hfs hkt hxk hcell
        go_wp2
        go_loopw [11, 13] (fun s i wr => ∃ j : Nat, j ≤ k ∧ i = .int .i64 j ∧ s = .bool (fr j) ∧ ∃ z, wr = w3.drewN z) (fun _ i _ => k - (intOf i).toNat)
        case atStart => exact ⟨0, by omega, rfl, by rw [hf0], z, rfl⟩
        case round =>
          clear hf0
          obtain ⟨j, hj, rfl, rfl, z, rfl⟩ := hrel
          have hcell : (w3.drewN z).cell? ⟨g, o + k, none⟩ = some (.int .i64 x) := hcell0
          by_cases hlj : j < k
          · have hcj : w3.cell? ⟨g, o + j, none⟩ = some (.int .i64 (a.getD j 0)) := HC.out j hlj
            have hfsj := HF.out j hlj
            generalize a.getD j 0 = y at *
            rcases Bool.eq_false_or_eq_true (fr j) with hft | hff
            · rw [hft] at hfsj ⊢
              have hfsj' : fr (j + 1) = (x != y) := by
                rw [hfsj]
                by_cases hxy : x = y <;> simp [hxy]
              have HFJ := Lib.hid hfsj'
              have i1 : (0 : Int) ≤ (j : Int) := by omega
              have i2 : (j : Int) < (L : Int) := by omega
              have i3 : (0 : Int) ≤ (k : Int) := by omega
              have i4 : (k : Int) < (L : Int) := by omega
              clear hfsj hfsj' hft
              go_wp2
              go_quiet (fail)
              go_wp2
              go_roundw
              case rel => exact ⟨j + 1, by omega, by go_num, by rw [HFJ.out], _, rfl⟩
              case measure => simp [intOf]; omega
            · rw [hff] at hfsj ⊢
              have hfsj' : fr (j + 1) = false := by rw [hfsj]; rfl
              have HFJ := Lib.hid hfsj'
              clear hfsj hfsj' hff
              go_wp2
              go_quiet (fail)
              go_wp2
              go_roundw
              case rel => exact ⟨j + 1, by omega, by go_num, by rw [HFJ.out], _, rfl⟩
              case measure => simp [intOf]; omega
          · obtain rfl : j = k := by omega
            go_wp2
            go_roundw
            case rel => exact ⟨j + 1, by omega, by go_num, by rw [HS.out], _, rfl⟩
            case measure => simp [intOf]; omega
      · exfalso
        obtain rfl : k = L := by omega
        rw [HN.out] at hkt
        cases hkt
    · rw [hkf]
      clear hkf
      go_wp2_with (go_at_call 21; refine (lives_any _).mono ?_; rintro e w4 ⟨rfl, hb4⟩)
      all_goals
        have hbf := (hb13.drewN z).trans (hb4.mono (hb13.drewN z).size)
        go_ret
        exact ⟨rfl, hbf⟩

end
end Go.Proofs.Ytneliejncfncdaa

namespace Go.Proofs.Ytneliejncfncdaa
open Go.RowKit
section
variable (q : Int) (A C : Option Addr) (c d m n : Nat) (p r a b : List Int) (w : World)

set_option maxRecDepth 100000 in
set_option maxHeartbeats 1600000 in
theorem thr_good (hC : Ints w C r) (h17a : Calls Try.prog 17 #[.slice A m c, .int .i64 34] w (RetInts a w)) (h17b : ∀ W, Ints W C r → Calls Try.prog 17 #[.slice C n d, .int .i64 34] W (RetInts b W)) (hla : a.length ≤ 34) (hlb : b.length ≤ 34) (L : Nat) (hLa : a.length = L) (hLb : b.length = L) (hp : primeB q = true) (h1 : 1 ≤ L) (h2 : (L : Int) ≤ q) (hea : elemB q a = true) (heb : elemB q b = true) (hnd : a.Nodup) :
    Calls Try.prog 9 #[.int .i64 q, .slice A m c, .slice C n d] w (Said true w) := by
  have he : throughR q a b = (lagOut q a b L L, 0) := by have := throughR_ok q a b hp hea heb (by omega) (by omega) (by omega) hnd; rwa [hLa] at this
  have hN : ∀ i, i ≤ L → ndB a i = true := fun i hi => decide_eq_true (hnd.sublist (List.take_sublist _ _))
  have hlagl := lagOut_length q a b L L
  have c40 : ∀ (W : World) A C c d, Ints W A a → Ints W C b → Calls Try.prog 40 #[.int .i64 q, .slice A a.length c, .slice C b.length d] W (RetL (throughR q a b).1 (throughR q a b).2 W) := fun W A C c d h1 h2 => through_ret q A C c d a b W h1 h2 (by omega) (by omega)
  rw [he] at c40
  clear he
  simp only [hLa, hLb] at c40
  have c19 : ∀ W, Calls Try.prog 19 #[.int .i64 q] W fun e w' => e = .returned (.bool true) ∧ W = w' := fun W => by
    have := (refPrime_any q W).mono fun e w' h => (⟨h.1, h.2.symm⟩ : e = .returned (.bool (primeB q)) ∧ W = w')
    rwa [hp] at this
  have c20a : ∀ (W : World) A c, Ints W A a → Calls Try.prog 20 #[.int .i64 q, .slice A L c] W fun e w' => e = .returned (.bool true) ∧ W = w' := fun W A c h => by
    have := (refElements_any q A c L a W (prime_bd hp) h hLa (by omega)).mono fun e w' h => (⟨h.1, h.2.symm⟩ : e = .returned (.bool (elemB q a)) ∧ W = w')
    rwa [hea] at this
  have c20b : ∀ (W : World) A c, Ints W A b → Calls Try.prog 20 #[.int .i64 q, .slice A L c] W fun e w' => e = .returned (.bool true) ∧ W = w' := fun W A c h => by
    have := (refElements_any q A c L b W (prime_bd hp) h hLb (by omega)).mono fun e w' h => (⟨h.1, h.2.symm⟩ : e = .returned (.bool (elemB q b)) ∧ W = w')
    rwa [heb] at this
  have c41 : ∀ (W : World) A C c d, Ints W A a → Ints W C b → Calls Try.prog 41 #[.int .i64 q, .slice A L c, .slice C L d] W (RetOwn (lagOut q a b L L) W) := fun W A C c d h1' h2' => refThrough_any q A C c d L a b W hp hea heb hnd hLa hLb h1 (by have := prime_bd hp; omega) h1' h2'
  generalize lagOut q a b L L = xs at *
  have c23 : ∀ (W : World) A B c d, Ints W A xs → Ints W B xs → Calls Try.prog 23 #[.slice A L c, .slice B L d] W fun e w' => e = .returned (.bool true) ∧ ∃ z, w' = W.drewN z := fun W A B c d h1 h2 => by
    have := lawsame_any A B L L c d xs xs W h1 h2 hlagl hlagl (by omega) (by omega)
    simpa using this
  have e1 : decide (1 ≤ L) = true := decide_eq_true h1
  have e1b : decide ((1 : Int) ≤ (L : Int)) = true := decide_eq_true (by omega)
  have e1c : ¬ (L < 1) := by omega
  have e2 : decide ((L : Int) ≤ q) = true := decide_eq_true h2
  have hq31 := (prime_bd hp).2
  have HLA := Lib.hid hLa
  have HLB := Lib.hid hLb
  have HN := Lib.hid hN
  clear hLa hLb hN hla hlb hnd
  have HXL := Lib.hid hlagl
  clear hlagl
  go_enter Try.func9, Try.ntmps9
  go_wp2_with fail
  refine h17a.mono ?_
  rintro e w1 ⟨v1, rfl, hs1, hb1⟩
  obtain ⟨A1, c1, rfl, hI⟩ := hs1.lieA HLA.out
  have hC1 := hC.below hb1
  clear hs1 h17a
  go_wp2_with fail
  refine (h17b _ hC1).mono ?_
  rintro e w2 ⟨v2, rfl, hs2, hb2⟩
  obtain ⟨A2, c2, rfl, hJ⟩ := hs2.lieA HLB.out
  have hI2 := hI.below hb2
  have hb12 := hb1.trans (hb2.mono hb1.size)
  clear hs2 h17b hC1 hI hb1 hb2 hC
  go_wp2_with fail
  refine (c40 _ _ _ _ _ hI2 hJ).mono ?_
  rintro e w3 ⟨v3, rfl, hs3, _, hb3⟩
  obtain ⟨A3, c3, rfl, hP⟩ := hs3.lieA HXL.out
  have hI3 := hI2.below hb3
  have hJ3 := hJ.below hb3
  have hb13 := hb12.trans (hb3.mono hb12.size)
  clear hs3 c40 hI2 hJ hb12 hb3
  go_wp2_with (go_at_call 19; refine (c19 _).mono ?_; rintro e w' ⟨rfl, rfl⟩)
  refine (c20a _ _ _ hI3).mono ?_
  rintro e w' ⟨rfl, rfl⟩
  go_wp2_with fail
  refine (c20b _ _ _ hJ3).mono ?_
  rintro e w' ⟨rfl, rfl⟩
  go_wp2_with fail
  clear c19 c20a c20b
  obtain ⟨ndB', hndB⟩ : ∃ f : Nat → Bool, f = ndB a := ⟨_, rfl⟩
  rw [← hndB] at HN
  have hn0 : ndB' 0 = true := by rw [hndB]; exact ndB_zero a
  have HNB := Lib.hid hndB
  clear hndB
  go_loopw [11, 12] (fun s i wr => ∃ k : Nat, k ≤ L ∧ i = .int .i64 k ∧ s = .bool (ndB' k) ∧ ∃ z, wr = w3.drewN z) (fun _ i _ => L - (intOf i).toNat)
  case atStart => exact ⟨0, by omega, rfl, by rw [hn0], 0, rfl⟩
  case round =>
    clear hn0
    obtain ⟨k, hk, rfl, rfl, z, rfl⟩ := hrel
    have hends : k = L ∨ k < L := by omega
    rcases Bool.eq_false_or_eq_true (ndB' k) with hkt | hkf
    · by_cases hlt : k < L
      · rw [hkt]
        obtain ⟨g, o, rfl, hg, hcell⟩ := (hI3.drewN z).get (k := k) (by rw [HLA.out]; exact hlt)
        have hxk : a.getD k 0 = a[k]'(by rw [HLA.out]; exact hlt) := by simp [List.getD, show k < a.length by rw [HLA.out]; exact hlt]
        rw [← hxk] at hcell
        have hsucc : ndB' (k + 1) = freshB a k k := by
          have e := ndB_succ (xs := a) (i := k) (by rw [HLA.out]; exact hlt) (by have := HNB.out; rw [← this]; exact hkt)
          rw [HNB.out]; exact e
        have hfs := fun (j : Nat) (hj : j < k) => freshB_succ (xs := a) (i := k) (j := j) (by rw [HLA.out]; omega)
        have hf0 := freshB_zero a k
        generalize freshB a k = fr at *
        have hcells : ∀ j, j < k → w3.cell? ⟨g, o + j, none⟩ = some (.int .i64 (a.getD j 0)) := fun j hj => by
          obtain ⟨g', o', he, _, hc⟩ := hI3.get (k := j) (by rw [HLA.out]; omega)
          cases he
          rw [hc]
          simp [List.getD, show j < a.length by rw [HLA.out]; omega]
        generalize a.getD k 0 = x at *
        have HC := Lib.hid hcells
        have HS := Lib.hid hsucc
        have HF := Lib.hid hfs
        have HXK := Lib.hid hxk
        have hcell0 : w3.cell? ⟨g, o + k, none⟩ = some (.int .i64 x) := hcell
        clear hcells hsucc hfs hkt hxk hcell
        go_wp2
        go_loopw [11, 13] (fun s i wr => ∃ j : Nat, j ≤ k ∧ i = .int .i64 j ∧ s = .bool (fr j) ∧ ∃ z, wr = w3.drewN z) (fun _ i _ => k - (intOf i).toNat)
        case atStart => exact ⟨0, by omega, rfl, by rw [hf0], z, rfl⟩
        case round =>
          clear hf0
          obtain ⟨j, hj, rfl, rfl, z, rfl⟩ := hrel
          have hcell : (w3.drewN z).cell? ⟨g, o + k, none⟩ = some (.int .i64 x) := hcell0
          by_cases hlj : j < k
          · have hcj : w3.cell? ⟨g, o + j, none⟩ = some (.int .i64 (a.getD j 0)) := HC.out j hlj
            have hfsj := HF.out j hlj
            generalize a.getD j 0 = y at *
            rcases Bool.eq_false_or_eq_true (fr j) with hft | hff
            · rw [hft] at hfsj ⊢
              have hfsj' : fr (j + 1) = (x != y) := by
                rw [hfsj]
                by_cases hxy : x = y <;> simp [hxy]
              have HFJ := Lib.hid hfsj'
              have i1 : (0 : Int) ≤ (j : Int) := by omega
              have i2 : (j : Int) < (L : Int) := by omega
              have i3 : (0 : Int) ≤ (k : Int) := by omega
              have i4 : (k : Int) < (L : Int) := by omega
              clear hfsj hfsj' hft
              go_wp2
              go_quiet (fail)
              go_wp2
              go_roundw
              case rel => exact ⟨j + 1, by omega, by go_num, by rw [HFJ.out], _, rfl⟩
              case measure => simp [intOf]; omega
            · rw [hff] at hfsj ⊢
              have hfsj' : fr (j + 1) = false := by rw [hfsj]; rfl
              have HFJ := Lib.hid hfsj'
              clear hfsj hfsj' hff
              go_wp2
              go_quiet (fail)
              go_wp2
              go_roundw
              case rel => exact ⟨j + 1, by omega, by go_num, by rw [HFJ.out], _, rfl⟩
              case measure => simp [intOf]; omega
          · obtain rfl : j = k := by omega
            go_wp2
            go_roundw
            case rel => exact ⟨j + 1, by omega, by go_num, by rw [HS.out], _, rfl⟩
            case measure => simp [intOf]; omega
      · obtain rfl : k = L := by omega
        rw [hkt]
        clear hkt
        go_wp2_with fail
        refine (c41 _ _ _ _ _ (hI3.drewN z) (hJ3.drewN z)).mono ?_
        rintro e w4 ⟨v4, rfl, ho4, hb4⟩
        obtain ⟨A4, c4, rfl, hK⟩ := ho4.sli.lieA HXL.out
        have hb14 := (hb13.drewN z).trans (hb4.mono (hb13.drewN z).size)
        have hP4 := (hP.drewN z).below hb4
        clear ho4 hb4
        go_wp2_with fail
        refine (c23 _ _ _ _ _ hP4 hK).mono ?_
        rintro e w5 ⟨rfl, z5, rfl⟩
        go_wp2_with (go_at_call 21; refine (lives_any _).mono ?_; rintro e w6 ⟨rfl, hb6⟩)
        have hbf := (hb14.drewN z5).trans (hb6.mono (hb14.drewN z5).size)
        go_ret
        exact ⟨rfl, hbf⟩
    · exfalso
      rw [HN.out k hk] at hkf
      cases hkf

end
end Go.Proofs.Ytneliejncfncdaa

namespace Go.Proofs.Ytneliejncfncdaa
open Go.RowKit
section
variable (q : Int) (A C : Option Addr) (c d m n : Nat) (p r a b : List Int) (w : World)

theorem throughs_any (hA : Ints w A p) (hn : p.length = m) (hnc : m ≤ c) (hnil : A = none → c = 0) (hC : Ints w C r) (hn' : r.length = n) (hnc' : n ≤ d) (hnil' : C = none → d = 0) :
    Calls Try.prog 9 #[.int .i64 q, .slice A m c, .slice C n d] w (Said true w) := by
  have h17a := cut_any A m c 34 34 p w hA hn hnc rfl (by omega) hnil
  have h17b := fun W (h : Ints W C r) => cut_any C n d 34 34 r W h hn' hnc' rfl (by omega) hnil'
  have hla : (p.take 34).length ≤ 34 := by simp; omega
  have hlb : (r.take 34).length ≤ 34 := by simp; omega
  generalize p.take 34 = a at *
  generalize r.take 34 = b at *
  by_cases hp : primeB q = true
  · by_cases hne : a.length = b.length
    · by_cases h1 : 1 ≤ a.length
      · by_cases h2 : (a.length : Int) ≤ q
        · by_cases hea : elemB q a = true
          · by_cases heb : elemB q b = true
            · by_cases hnd : a.Nodup
              · exact thr_good q A C c d m n r a b w hC h17a h17b hla hlb a.length rfl hne.symm hp h1 h2 hea heb hnd
              · exact thr_dup q A C c d m n r a b w hC h17a h17b hla hlb a.length rfl hne.symm hp h1 h2 hea heb hnd
            · exact thr_outy q A C c d m n r a b w hC h17a h17b hla hlb hp hne h1 h2 hea (by simpa using heb)
          · exact thr_outx q A C c d m n r a b w hC h17a h17b hla hlb hp hne h1 h2 (by simpa using hea)
        · exact thr_long q A C c d m n r a b w hC h17a h17b hla hlb hp hne h1 (by omega)
      · exact thr_empty q A C c d m n r a b w hC h17a h17b hla hlb hp hne (by omega)
    · exact thr_uneq q A C c d m n r a b w hC h17a h17b hla hlb hp hne
  · exact thr_noprime q A C c d m n r a b w hC h17a h17b hla hlb (by simpa using hp)
end
theorem throughs_row (q : Int) (A : Option Addr) (c m : Nat) (p : List Int) (C : Option Addr) (d n : Nat) (r : List Int) (w : World) (_ : I64 q) (hA : Ints w A p) (hn : p.length = m) (hnc : m ≤ c) (hnil : A = none → c = 0) (_ : ∀ x ∈ p, I64 x)
    (hC : Ints w C r) (hn' : r.length = n) (hnc' : n ≤ d) (hnil' : C = none → d = 0) (_ : ∀ x ∈ r, I64 x) :
    Calls Try.prog 9 #[.int .i64 q, .slice A m c, .slice C n d] w (Said true w) := throughs_any q A C c d m n p r w hA hn hnc hnil hC hn' hnc' hnil'
end Go.Proofs.Ytneliejncfncdaa
