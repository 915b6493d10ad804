/- gear's teeth, Meet, product. -/
import Derived.Test.YtklngjjokbhfpaaQ
namespace Go.Proofs.Ytklngjjokbhfpaa
open Go.RowKit

set_option maxHeartbeats 400000 in
theorem teeth_any (n : Int) (w : World) : Calls Try.prog 43 #[.int .i64 n] w fun e w' => e = .returned (.bool (decide (1 ≤ n ∧ n ≤ 200))) ∧ w = w' := by
  by_cases h1 : 1 ≤ n
  · have d1 : decide (1 ≤ n) = true := decide_eq_true h1
    have e : decide (1 ≤ n ∧ n ≤ 200) = decide (n ≤ 200) := by simp [h1]
    rw [e]
    clear e h1
    go_enter Try.func43, Try.ntmps43
    go_wp2
    go_ret
    exact ⟨rfl, rfl⟩
  · have d1 : decide (1 ≤ n) = false := decide_eq_false h1
    have e : decide (1 ≤ n ∧ n ≤ 200) = false := by simp [h1]
    rw [e]
    clear e h1
    go_enter Try.func43, Try.ntmps43
    go_wp2
    go_ret
    exact ⟨rfl, rfl⟩

/-- The turns of a wheel and a pinion. -/
def meetR (a b : Int) : Value :=
  if (1 ≤ a ∧ a ≤ 200) ∧ (1 ≤ b ∧ b ≤ 200) then .tuple #[.int .i64 (b / (Nat.gcd a.toNat b.toNat : Nat)), .int .i64 (a / (Nat.gcd a.toNat b.toNat : Nat)), .int .i64 0]
  else .tuple #[.int .i64 0, .int .i64 0, .int .i64 1]

set_option maxRecDepth 100000 in
set_option maxHeartbeats 1600000 in
theorem meet_any (a b : Int) (w : World) : Calls Try.prog 19 #[.int .i64 a, .int .i64 b] w fun e w' => e = .returned (meetR a b) ∧ ∃ z, w' = w.drewN z := by
  have ca := teeth_any a w
  have cb := teeth_any b w
  by_cases ha : 1 ≤ a ∧ a ≤ 200
  · have d1 : decide (1 ≤ a ∧ a ≤ 200) = true := decide_eq_true ha
    by_cases hb : 1 ≤ b ∧ b ≤ 200
    · have d2 : decide (1 ≤ b ∧ b ≤ 200) = true := decide_eq_true hb
      rw [d1] at ca
      rw [d2] at cb
      clear d1 d2
      have hg : 0 < Nat.gcd a.toNat b.toNat := Nat.gcd_pos_of_pos_left _ (by omega)
      have hgl : Nat.gcd a.toNat b.toNat ≤ 200 := Nat.le_trans (Nat.le_of_dvd (by omega) (Nat.gcd_dvd_left _ _)) (by omega)
      have cg := gcd_any a.toNat b.toNat w (by omega) (by omega)
      have hres : meetR a b = .tuple #[.int .i64 (b / (Nat.gcd a.toNat b.toNat : Nat)), .int .i64 (a / (Nat.gcd a.toNat b.toNat : Nat)), .int .i64 0] := by rw [meetR, if_pos ⟨ha, hb⟩]
      have HRES := Lib.hid hres
      obtain ⟨ha1, ha2⟩ := ha
      obtain ⟨hb1, hb2⟩ := hb
      clear hres
      have e1 : ((a.toNat : Nat) : Int) = a := by omega
      have e2 : ((b.toNat : Nat) : Int) = b := by omega
      rw [e1, e2] at cg
      clear e1 e2
      generalize Nat.gcd a.toNat b.toNat = g at *
      have v1 : IntKind.u64.wrap a = a := u64_in a (by omega)
      have v2 : IntKind.u64.wrap b = b := u64_in b (by omega)
      have v3 : IntKind.i64.wrap (g : Int) = g := IntWalk.i64_in _ (by omega)
      have g0 : ¬ (g : Int) = 0 := by omega
      have q1 : 0 ≤ b / (g : Int) := Int.ediv_nonneg (by omega) (by omega)
      have q2 : b / (g : Int) ≤ b := Int.ediv_le_self _ (by omega)
      have q3 : 0 ≤ a / (g : Int) := Int.ediv_nonneg (by omega) (by omega)
      have q4 : a / (g : Int) ≤ a := Int.ediv_le_self _ (by omega)
      have t1 : Int.tdiv b g = b / g := Int.tdiv_eq_ediv_of_nonneg (by omega)
      have t2 : Int.tdiv a g = a / g := Int.tdiv_eq_ediv_of_nonneg (by omega)
      go_enter Try.func19, Try.ntmps19
      go_wp2_with fail
      refine ca.mono ?_
      rintro e w1 ⟨rfl, rfl⟩
      clear ca
      go_wp2_with fail
      refine cb.mono ?_
      rintro e w1 ⟨rfl, rfl⟩
      clear cb
      go_wp2_with fail
      refine cg.mono ?_
      rintro e w1 ⟨rfl, zz, rfl⟩
      clear cg
      go_wp2_with fail
      go_quiet (fail)
      go_wp2
      refine bodyPost_ret (v := .tuple #[.int .i64 (b / g), .int .i64 (a / g), .int .i64 0]) (by simp [results, Try.results19, go_sem]) rfl ⟨by rw [HRES.out], _, World.drewN_drewN _ _ _⟩
    · have d2 : decide (1 ≤ b ∧ b ≤ 200) = false := decide_eq_false hb
      rw [d1] at ca
      rw [d2] at cb
      clear d1 d2
      have hres : meetR a b = .tuple #[.int .i64 0, .int .i64 0, .int .i64 1] := by rw [meetR, if_neg (fun h => hb h.2)]
      have HRES := Lib.hid hres
      clear hres ha hb
      go_enter Try.func19, Try.ntmps19
      go_wp2_with fail
      refine ca.mono ?_
      rintro e w1 ⟨rfl, rfl⟩
      clear ca
      go_wp2_with fail
      refine cb.mono ?_
      rintro e w1 ⟨rfl, rfl⟩
      clear cb
      go_wp2
      refine bodyPost_ret (v := .tuple #[.int .i64 0, .int .i64 0, .int .i64 1]) (by simp [results, Try.results19, go_sem]) rfl ⟨by rw [HRES.out], 0, rfl⟩
  · have d1 : decide (1 ≤ a ∧ a ≤ 200) = false := decide_eq_false ha
    rw [d1] at ca
    clear d1 cb
    have hres : meetR a b = .tuple #[.int .i64 0, .int .i64 0, .int .i64 1] := by rw [meetR, if_neg (fun h => ha h.1)]
    have HRES := Lib.hid hres
    clear hres ha
    go_enter Try.func19, Try.ntmps19
    go_wp2_with fail
    refine ca.mono ?_
    rintro e w1 ⟨rfl, rfl⟩
    clear ca
    go_wp2
    refine bodyPost_ret (v := .tuple #[.int .i64 0, .int .i64 0, .int .i64 1]) (by simp [results, Try.results19, go_sem]) rfl ⟨by rw [HRES.out], 0, rfl⟩

/-- The product of some numbers. -/
def prodL (l : List Int) : Int := l.foldl (· * ·) 1
theorem prodL_snoc (l : List Int) (x : Int) : prodL (l ++ [x]) = prodL l * x := by simp [prodL]
theorem foldl_mul : ∀ (l : List Int) (a : Int), l.foldl (· * ·) a = a * prodL l
  | [], a => by simp [prodL]
  | x :: l, a => by
    show l.foldl (· * ·) (a * x) = a * l.foldl (· * ·) (1 * x)
    rw [foldl_mul l, foldl_mul l, Int.one_mul, Int.mul_assoc]
theorem prodL_cons (x : Int) (l : List Int) : prodL (x :: l) = x * prodL l := by
  show l.foldl (· * ·) (1 * x) = _
  rw [foldl_mul, Int.one_mul]
theorem prodL_bound : ∀ (l : List Int), (∀ x ∈ l, 1 ≤ x ∧ x ≤ 200) → 1 ≤ prodL l ∧ prodL l ≤ 200 ^ l.length
  | [], _ => by simp [prodL]
  | x :: l, h => by
    have ⟨h1, h2⟩ := prodL_bound l fun y hy => h y (by simp [hy])
    have ⟨h3, h4⟩ := h x (by simp)
    rw [prodL_cons]
    refine ⟨?_, ?_⟩
    · have := Int.mul_le_mul h3 h1 (by omega) (by omega); simpa using this
    · have := Int.mul_le_mul h4 h2 (by omega) (by omega)
      rw [List.length_cons, Int.pow_succ, Int.mul_comm (200 ^ l.length)]
      exact this
theorem prodL_small {l : List Int} (h : ∀ x ∈ l, 1 ≤ x ∧ x ≤ 200) {n : Nat} (hn : l.length ≤ n) : 1 ≤ prodL l ∧ prodL l ≤ 200 ^ n := by
  have ⟨h1, h2⟩ := prodL_bound l h
  exact ⟨h1, Int.le_trans h2 (by have := Nat.pow_le_pow_right (show 0 < 200 by omega) hn; have h := Int.ofNat_le.2 this; rw [Int.natCast_pow, Int.natCast_pow] at h; exact h)⟩

set_option maxRecDepth 100000 in
set_option maxHeartbeats 800000 in
theorem product_any (A : Option Addr) (n c : Nat) (xs : List Int) (w : World) (h : Ints .i64 w A xs) (hn : xs.length = n) (h8 : n ≤ 8) (hb : ∀ x ∈ xs, 1 ≤ x ∧ x ≤ 200) :
    Calls Try.prog 55 #[.slice A n c] w fun e w' => e = .returned (.int .i64 (prodL xs)) ∧ w = w' := by
  have HN := Lib.hid hn
  have HB := Lib.hid hb
  clear hn hb
  go_enter Try.func55, Try.ntmps55
  go_wp2
  go_loopw [3, 8] (fun p i wr => ∃ k : Nat, k ≤ n ∧ p = .int .i64 (prodL (xs.take k)) ∧ i = .int .i64 k ∧ w = wr) (fun _ i _ => n - (intOf i).toNat)
  case atStart => exact ⟨0, Nat.zero_le _, rfl, rfl, rfl⟩
  case round =>
    obtain ⟨k, hk, rfl, rfl, rfl⟩ := hrel
    by_cases hlt : k < n
    · have hlt' : k < xs.length := by rw [HN.out]; exact hlt
      obtain ⟨b1, o1, rfl, hl1, hc1⟩ := h.get hlt'
      have ht : xs.take (k + 1) = xs.take k ++ [xs[k]] := by simp
      have hx := HB.out xs[k] (List.getElem_mem _)
      have hp := prodL_small (l := xs.take k) (n := 7) (fun x hx => HB.out x (List.mem_of_mem_take hx)) (by simp; omega)
      have hq := prodL_small (l := xs.take (k + 1)) (n := 8) (fun x hx => HB.out x (List.mem_of_mem_take hx)) (by simp; omega)
      have hps := prodL_snoc (xs.take k) xs[k]
      rw [ht] at hq
      rw [hps] at hq
      have e8 : (200 : Int) ^ 8 = 2560000000000000000 := by decide
      rw [e8] at hq
      have u1 : IntKind.i64.wrap (prodL (xs.take k) * xs[k]) = prodL (xs.take k) * xs[k] := IntWalk.i64_in _ (by omega)
      have HT := Lib.hid ht
      have HPS := Lib.hid hps
      clear ht hps hp hq hx e8
      generalize prodL (xs.take k) = P at *
      generalize xs[k] = x at *
      go_wp2
      go_roundw
      case rel => exact ⟨k + 1, by omega, by rw [HT.out, HPS.out], by go_num, by trivial⟩
      case measure => simp [intOf]; omega
    · have hkn : k = n := by omega
      have ht : xs.take k = xs := by rw [List.take_of_length_le (by rw [HN.out]; omega)]
      rw [ht]
      clear ht
      obtain ⟨P, hP⟩ : ∃ P, P = prodL xs := ⟨_, rfl⟩
      rw [← hP]
      have HP := Lib.hid hP
      clear hP
      go_wp2
      go_ret
      exact ⟨by rw [← HP.out]; rfl, rfl⟩

end Go.Proofs.Ytklngjjokbhfpaa
