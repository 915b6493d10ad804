/- The reference's in, Prime, Elements, Inverse, Value. -/
import Derived.Test.YtneliejncfncdaaU
namespace Go.Proofs.Ytneliejncfncdaa
open Go.RowKit

theorem ret_bool {a b : Bool} (h : a = b) : Ending.returned (.bool a) = .returned (.bool b) := by rw [h]

theorem in_any (v lo hi : Int) (w : World) : Calls Try.prog 63 #[.int .i64 v, .int .i64 lo, .int .i64 hi] w fun e w' => e = .returned (.bool (decide (lo ≤ v) && decide (v ≤ hi))) ∧ w' = w := by
  cases h1 : decide (lo ≤ v) with
  | false =>
    go_enter Try.func63, Try.ntmps63
    go_wp2
    go_ret
    exact ⟨rfl, rfl⟩
  | true =>
    cases h2 : decide (v ≤ hi) with
    | false =>
      go_enter Try.func63, Try.ntmps63
      go_wp2
      go_ret
      exact ⟨rfl, rfl⟩
    | true =>
      go_enter Try.func63, Try.ntmps63
      go_wp2
      go_ret
      exact ⟨rfl, rfl⟩

theorem in_yes (v lo hi : Int) (w : World) (h1 : lo ≤ v) (h2 : v ≤ hi) : Calls Try.prog 63 #[.int .i64 v, .int .i64 lo, .int .i64 hi] w fun e w' => e = .returned (.bool true) ∧ w' = w := by
  have := in_any v lo hi w
  rwa [decide_eq_true h1, decide_eq_true h2] at this
theorem in_no (v lo hi : Int) (w : World) (h : ¬ (lo ≤ v ∧ v ≤ hi)) : Calls Try.prog 63 #[.int .i64 v, .int .i64 lo, .int .i64 hi] w fun e w' => e = .returned (.bool false) ∧ w' = w := by
  have := in_any v lo hi w
  rwa [show (decide (lo ≤ v) && decide (v ≤ hi)) = false by simp; omega] at this

theorem prime_div : ∀ q : Fin 32, ∀ d : Fin 32, 2 ≤ d.val → d.val < q.val → q.val % d.val = 0 → primeB (q.val : Int) = false := by decide +kernel
theorem prime_nodiv : ∀ q : Fin 32, 2 ≤ q.val → (∀ d : Fin 32, 2 ≤ d.val → d.val < q.val → q.val % d.val ≠ 0) → primeB (q.val : Int) = true := by decide +kernel

set_option maxHeartbeats 800000 in
theorem refPrime_any (q : Int) (w : World) : Calls Try.prog 19 #[.int .i64 q] w fun e w' => e = .returned (.bool (primeB q)) ∧ w' = w := by
  by_cases hq : 2 ≤ q ∧ q ≤ 31
  · obtain ⟨hq1, hq2⟩ := hq
    obtain ⟨n, rfl⟩ : ∃ n : Nat, q = n := ⟨q.toNat, by omega⟩
    go_enter Try.func19, Try.ntmps19
    go_wp2_with (go_at_call 63; refine (in_yes _ _ _ _ hq1 hq2).mono ?_; rintro e w' ⟨rfl, rfl⟩)
    go_loop [3] (fun s => ∃ k : Nat, 2 ≤ k ∧ k ≤ n ∧ s = .int .i64 k ∧ ∀ d : Nat, 2 ≤ d → d < k → n % d ≠ 0) (fun s => n - (intOf s).toNat)
    case atStart => exact ⟨2, by omega, by omega, rfl, by intro d h1 h2; omega⟩
    case round =>
      obtain ⟨k, hk2, hk, rfl, hd⟩ := hrel
      by_cases hlt : k < n
      · by_cases hm : n % k = 0
        · have hf := prime_div ⟨n, by omega⟩ ⟨k, by omega⟩ hk2 hlt hm
          simp only at hf
          have hm2 : (n : Int) % (k : Int) = 0 := by omega
          have hb : ((n : Int) % (k : Int) == 0) = true := by simp [hm2]
          have hne : ¬ ((k : Int) = 0) := by omega
          have hne2 : ¬ (k = 0) := by omega
          have HF := Lib.hid hf
          clear hf hd
          go_wp2
          go_ret
          exact ⟨ret_bool HF.out.symm, rfl⟩
        · have hm2 : ¬ ((n : Int) % (k : Int) = 0) := by omega
          have hb : ((n : Int) % (k : Int) == 0) = false := by simp [hm2]
          have hne : ¬ ((k : Int) = 0) := by omega
          have hne2 : ¬ (k = 0) := by omega
          have HD := Lib.hid hd
          have HM := Lib.hid hm
          clear hd
          go_wp2
          go_round
          case rel => exact ⟨k + 1, by omega, by omega, by go_num, fun d h1 h2 => by
            by_cases e : d = k
            · subst e; exact HM.out
            · exact HD.out d h1 (by omega)⟩
          case measure => simp [intOf]; omega
      · obtain rfl : k = n := by omega
        have hf := prime_nodiv ⟨k, by omega⟩ hk2 (fun d h1 h2 => hd d.val h1 h2)
        simp only at hf
        have HF := Lib.hid hf
        clear hf hd
        go_wp2
        go_ret
        exact ⟨ret_bool HF.out.symm, rfl⟩
  · have hf : primeB q = false := primeB_false (by omega)
    rw [hf]
    go_enter Try.func19, Try.ntmps19
    go_wp2_with (go_at_call 63; refine (in_no _ _ _ _ hq).mono ?_; rintro e w' ⟨rfl, rfl⟩)
    go_ret
    exact ⟨rfl, rfl⟩

set_option maxHeartbeats 800000 in
theorem refElements_any (q : Int) (A : Option Addr) (c n : Nat) (l : List Int) (w : World) (hq : 2 ≤ q ∧ q ≤ 31) (hA : Ints w A l) (hn : l.length = n) (hb : n ≤ 1000000) :
    Calls Try.prog 20 #[.int .i64 q, .slice A n c] w fun e w' => e = .returned (.bool (elemB q l)) ∧ w' = w := by
  obtain ⟨hq1, hq2⟩ := hq
  have HN := Lib.hid hn
  clear hn
  go_enter Try.func20, Try.ntmps20
  go_wp2
  go_loop [5] (fun s => ∃ k : Nat, k ≤ n ∧ s = .int .i64 k ∧ elemB q (l.take k) = true) (fun s => n - (intOf s).toNat)
  case atStart => exact ⟨0, by omega, rfl, rfl⟩
  case round =>
    obtain ⟨k, hk, rfl, ht⟩ := hrel
    by_cases hlt : k < n
    · obtain ⟨b, o, rfl, hl, hc⟩ := hA.get (k := k) (by rw [HN.out]; exact hlt)
      have hkl : k < l.length := by rw [HN.out]; exact hlt
      have hx : l.take (k + 1) = l.take k ++ [l[k]] := by rw [List.take_add_one, List.getElem?_eq_getElem hkl]; rfl
      have hbad : ¬ (0 ≤ l[k] ∧ l[k] ≤ q - 1) → elemB q l = false := fun h => by
        rw [← Bool.not_eq_true]
        intro h2
        have := elem_get h2 (k := k) hkl
        omega
      generalize l[k] = x at *
      have HX := Lib.hid hx
      have HT := Lib.hid ht
      clear hx ht
      by_cases hin : 0 ≤ x ∧ x ≤ q - 1
      · have HIN := Lib.hid hin
        clear hbad hin
        go_wp2_with (go_at_call 63; refine (in_yes _ _ _ _ HIN.out.1 HIN.out.2).mono ?_; rintro e w' ⟨rfl, rfl⟩)
        go_round
        case rel => exact ⟨k + 1, by omega, by go_num, by rw [HX.out]; exact elemB_append HT.out (by have := HIN.out; simp [elemB]; omega)⟩
        case measure => simp [intOf]; omega
      · have HB := Lib.hid (hbad hin)
        have HIN := Lib.hid hin
        clear hbad hin
        go_wp2_with (go_at_call 63; refine (in_no _ _ _ _ HIN.out).mono ?_; rintro e w' ⟨rfl, rfl⟩)
        go_ret
        exact ⟨ret_bool HB.out.symm, rfl⟩
    · obtain rfl : k = n := by omega
      have hf : elemB q l = true := by rwa [List.take_of_length_le (by rw [HN.out]; omega)] at ht
      have HF := Lib.hid hf
      clear hf ht
      go_wp2
      go_ret
      exact ⟨ret_bool HF.out.symm, rfl⟩

/-- The inverse, by trial. -/
theorem inv_facts : ∀ q : Fin 32, primeB (q.val : Int) = true → ∀ a : Fin 32, 1 ≤ a.val → a.val < q.val →
    1 ≤ pw q.val a.val (q.val - 2 : Nat) ∧ ((a.val : Int) * pw q.val a.val (q.val - 2 : Nat) % (q.val : Int) = 1) ∧ ∀ b : Fin 32, 1 ≤ b.val → (b.val : Int) < pw q.val a.val (q.val - 2 : Nat) → ¬ ((a.val : Int) * b.val % (q.val : Int) = 1) := by decide +kernel

set_option maxHeartbeats 800000 in
theorem refInverse_any (q a : Int) (w : World) (hq : primeB q = true) (ha : 1 ≤ a ∧ a < q) : Calls Try.prog 33 #[.int .i64 q, .int .i64 a] w fun e w' => e = .returned (.int .i64 (pw q a (q - 2).toNat)) ∧ w' = w := by
  have hp := prime_bd hq
  obtain ⟨hq1, hq2⟩ := hp
  obtain ⟨ha1, ha2⟩ := ha
  obtain ⟨n, rfl⟩ : ∃ n : Nat, q = n := ⟨q.toNat, by omega⟩
  obtain ⟨m, rfl⟩ : ∃ m : Nat, a = m := ⟨a.toNat, by omega⟩
  have hf := inv_facts ⟨n, by omega⟩ hq ⟨m, by omega⟩ (by simp; omega) (by simp; omega)
  simp only at hf
  have e : ((n : Int) - 2).toNat = n - 2 := by omega
  rw [e]
  have hb := pw_bd (q := (n : Int)) (a := (m : Int)) hq1 (n - 2)
  generalize pw n m (n - 2) = i at *
  obtain ⟨f1, f2, f3⟩ := hf
  obtain ⟨b1, b2⟩ := hb
  have F2 := Lib.hid f2
  have F3 := Lib.hid f3
  clear f2 f3 e
  go_enter Try.func33, Try.ntmps33
  go_wp2
  go_loop [5] (fun s => ∃ k : Nat, 1 ≤ k ∧ (k : Int) ≤ i ∧ s = .int .i64 k) (fun s => (i - intOf s).toNat)
  case atStart => exact ⟨1, by omega, by omega, rfl⟩
  case round =>
    obtain ⟨k, hk1, hk2, rfl⟩ := hrel
    have hmb : 0 ≤ (m : Int) * (k : Int) ∧ (m : Int) * (k : Int) ≤ 31 * 31 := ⟨Int.mul_nonneg (by omega) (by omega), Int.mul_le_mul (by omega) (by omega) (by omega) (by omega)⟩
    obtain ⟨hm1, hm2⟩ := hmb
    have hn0 : ¬ ((n : Int) = 0) := by omega
    have hn1 : ¬ (n = 0) := by omega
    by_cases hlt : (k : Int) < i
    · have hne := F3.out ⟨k, by omega⟩ (by simpa using hk1) (by simpa using hlt)
      simp only at hne
      have hb1 : ((m : Int) * (k : Int) % (n : Int) == 1) = false := by simpa using hne
      have hb2 : ((m : Int) * (k : Int) % (n : Int) != 1) = true := by simpa using hne
      clear hne
      have hw : IntKind.i64.wrap ((m : Int) * (k : Int)) = (m : Int) * (k : Int) := IntWalk.i64_in _ (by omega)
      go_wp2
      go_round
      case rel => exact ⟨k + 1, by omega, by omega, by go_num⟩
      case measure => simp [intOf]; omega
    · obtain rfl : i = (k : Int) := by omega
      have hb1 : ((m : Int) * (k : Int) % (n : Int) == 1) = true := by simpa using F2.out
      have hb2 : ((m : Int) * (k : Int) % (n : Int) != 1) = false := by simpa using F2.out
      have hw : IntKind.i64.wrap ((m : Int) * (k : Int)) = (m : Int) * (k : Int) := IntWalk.i64_in _ (by omega)
      go_wp2
      go_ret
      exact ⟨rfl, rfl⟩
end Go.Proofs.Ytneliejncfncdaa
