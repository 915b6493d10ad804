import Derived.Test.YtneliejncfncdaaA
import Derived.Test.YtneliejncfncdaaW
namespace Go.Proofs.Ytneliejncfncdaa
open Go.RowKit

theorem Calls.quiet_add_same {P : Program} {f : FuncId} {args : Array Value} {w : World} {a n : Nat} {v : Value}
    (h : Calls P f args (w.drewN (a + n)) fun e w' => e = .returned v ∧ w' = w.drewN (a + n)) :
    Calls P f args (w.drewN (a + n)) fun e w'' => e = .returned v ∧ ∃ m, w'' = w.drewN (a + m) :=
  h.mono fun _ _ ⟨he, hm⟩ => ⟨he, n, hm⟩

/-- Horner's rule modulo q. -/
def hv (q x : Int) : List Int → Int
  | [] => 0
  | c :: cs => (hv q x cs * x % q + c) % q

theorem hv_bd {q x : Int} (hq : 1 ≤ q) : ∀ l : List Int, 0 ≤ hv q x l ∧ hv q x l < q
  | [] => ⟨by simp [hv], by simp [hv]; omega⟩
  | c :: cs => ⟨Int.emod_nonneg _ (by omega), Int.emod_lt_of_pos _ (by omega)⟩

theorem elem_get {q : Int} {l : List Int} (h : elemB q l = true) {k : Nat} (hk : k < l.length) : 0 ≤ l[k] ∧ l[k] < q := by
  have := (List.all_eq_true.1 h) l[k] (List.getElem_mem hk)
  simp at this
  exact this

theorem drop_hv (q x : Int) (p : List Int) (k : Nat) (hk : k < p.length) : hv q x (p.drop k) = (hv q x (p.drop (k + 1)) * x % q + p[k]) % q := by
  rw [List.drop_eq_getElem_cons hk]; rfl

set_option maxHeartbeats 400000 in
theorem value_any (q x : Int) (A : Option Addr) (c : Nat) (p : List Int) (w : World) (hq : 2 ≤ q ∧ q ≤ 31) (hx : 0 ≤ x ∧ x ≤ 31) (hp : elemB q p = true) (hA : Ints w A p) (hl : p.length ≤ 1000000) :
    Calls Try.prog 62 #[.int .i64 q, .slice A p.length c, .int .i64 x] w fun e w' => e = .returned (.int .i64 (hv q x p)) ∧ ∃ n, w' = w.drewN n := by
  obtain ⟨hq1, hq2⟩ := hq
  obtain ⟨hx1, hx2⟩ := hx
  go_enter Try.func62, Try.ntmps62
  go_wp2
  go_loopw [7, 8] (fun s t wr => ∃ k : Nat, k ≤ p.length ∧ t = .int .i64 ((k : Int) - 1) ∧ s = .int .i64 (hv q x (p.drop k)) ∧ ∃ n, wr = w.drewN n) (fun _ t _ => (intOf t + 1).toNat)
  case atStart => exact ⟨p.length, by omega, rfl, by simp [hv], 0, rfl⟩
  case round =>
    obtain ⟨k, hk, rfl, rfl, n, rfl⟩ := hrel
    rcases Nat.eq_zero_or_pos k with h0 | h0
    · subst h0
      go_wp2
      go_ret
      exact ⟨rfl, n, rfl⟩
    · obtain ⟨j, rfl⟩ : ∃ j, k = j + 1 := ⟨k - 1, by omega⟩
      have hj : j < p.length := by omega
      obtain ⟨b, off, rfl, hb, hc⟩ := hA.get hj
      have hd := drop_hv q x p j hj
      have hbd := hv_bd (q := q) (x := x) (by omega) (p.drop (j + 1))
      have hel := elem_get hp hj
      generalize hv q x (p.drop (j + 1)) = s at *
      generalize p[j] = y at *
      have HD := Lib.hid hd
      clear hd
      obtain ⟨hs1, hs2⟩ := hbd
      obtain ⟨hy1, hy2⟩ := hel
      have hm := mul_bd (q := q) (a := s) (b := x) ⟨hs1, by omega⟩ ⟨hx1, by omega⟩
      have hr1 : 0 ≤ s * x % q := Int.emod_nonneg _ (by omega)
      have hr2 : s * x % q < q := Int.emod_lt_of_pos _ (by omega)
      have hj1 : (0 : Int) ≤ (j : Int) := by omega
      have hj2 : (j : Int) < (p.length : Int) := by omega
      rw [show (((j + 1 : Nat) : Int) - 1) = (j : Int) from by omega]
      go_wp2
      go_quiet ((first | (go_at_call 78; exact Calls.quiet_add_same (mul_any _ _ _ _ (by omega) ⟨hs1, by omega⟩ ⟨hx1, by omega⟩)) | (go_at_call 81; exact Calls.quiet_add_same (add_any _ _ _ _ (by omega) ⟨hr1, by omega⟩ ⟨hy1, by omega⟩))))
      go_wp2
      go_roundw
      case rel => exact ⟨j, by omega, by simp, by rw [HD.out], _, rfl⟩
      case measure => simp [intOf]
theorem elemB_iff' (q : Int) (l : List Int) : elemB q l = true ↔ ∀ (j : Nat) (x : Int), l[j]? = some x → 0 ≤ x ∧ x < q := by
  constructor
  · intro h j x hx
    have := (List.all_eq_true.1 h) x (List.mem_of_getElem? hx)
    simpa using this
  · intro h
    unfold elemB
    rw [List.all_eq_true]
    intro x hx
    obtain ⟨j, hj⟩ := List.mem_iff_getElem?.1 hx
    simpa using h j x hj

/-- Powers modulo q. -/
def pw (q a : Int) : Nat → Int
  | 0 => 1
  | n + 1 => pw q a n * a % q

theorem pw_bd {q a : Int} (hq : 2 ≤ q) : ∀ n, 0 ≤ pw q a n ∧ pw q a n < q
  | 0 => ⟨by simp [pw], by simp [pw]; omega⟩
  | _ + 1 => ⟨Int.emod_nonneg _ (by omega), Int.emod_lt_of_pos _ (by omega)⟩

set_option maxHeartbeats 400000 in
theorem inverse_any (q a : Int) (w : World) (hq : 2 ≤ q ∧ q ≤ 31) (ha : 0 ≤ a ∧ a ≤ 31) :
    Calls Try.prog 67 #[.int .i64 q, .int .i64 a] w fun e w' => e = .returned (.int .i64 (pw q a (q - 2).toNat)) ∧ w' = w := by
  obtain ⟨hq1, hq2⟩ := hq
  obtain ⟨ha1, ha2⟩ := ha
  go_enter Try.func67, Try.ntmps67
  go_wp2
  go_loop [5, 8] (fun s t => ∃ k : Nat, (k : Int) ≤ q - 2 ∧ t = .int .i64 k ∧ s = .int .i64 (pw q a k)) (fun _ t => (q - intOf t).toNat)
  case atStart => exact ⟨0, by omega, rfl, rfl⟩
  case round =>
    obtain ⟨k, hk, rfl, rfl⟩ := hrel
    have hb := pw_bd (q := q) (a := a) (by omega) k
    have hs : pw q a (k + 1) = pw q a k * a % q := rfl
    have HS := Lib.hid hs
    clear hs
    by_cases hlt : (k : Int) < q - 2
    · generalize hs0 : pw q a k = s at *
      clear hs0
      obtain ⟨hb1, hb2⟩ := hb
      go_wp2_with (go_at_call 78; refine (mul_any _ _ _ _ (by omega) ⟨hb1, by omega⟩ ⟨ha1, by omega⟩).mono ?_; rintro e w' ⟨rfl, rfl⟩)
      go_round
      case rel => exact ⟨k + 1, by omega, by go_num, by rw [HS.out]⟩
      case measure => simp [intOf]; omega
    · have hk' : k = (q - 2).toNat := by omega
      have HK := Lib.hid hk'
      clear hk'
      go_wp2
      go_ret
      exact ⟨ret_int (by rw [HK.out]), rfl⟩

theorem elemB_cons (q : Int) (a : Int) (l : List Int) : elemB q (a :: l) = (decide (0 ≤ a) && decide (a < q) && elemB q l) := rfl

theorem elemB_of (q : Int) (l : List Int) (h : ∀ k (hk : k < l.length), 0 ≤ l[k] ∧ l[k] < q) : elemB q l = true := by
  unfold elemB
  rw [List.all_eq_true]
  intro x hx
  obtain ⟨k, hk, rfl⟩ := List.mem_iff_getElem.1 hx
  have := h k hk
  simp
  exact this

set_option maxHeartbeats 400000 in
theorem elements_yes (q : Int) (A : Option Addr) (c : Nat) (p : List Int) (w : World) (hp : elemB q p = true) (hA : Ints w A p) (hl : p.length ≤ 1000000) :
    Calls Try.prog 59 #[.int .i64 q, .slice A p.length c] w fun e w' => e = .returned (.tuple #[]) ∧ w' = w := by
  go_enter Try.func59, Try.ntmps59
  go_wp2
  go_loop [8] (fun t => ∃ k : Nat, k ≤ p.length ∧ t = .int .i64 k) (fun t => p.length - (intOf t).toNat)
  case atStart => exact ⟨0, by omega, rfl⟩
  case round =>
    obtain ⟨k, hk, rfl⟩ := hrel
    by_cases hlt : k < p.length
    · obtain ⟨b, off, rfl, hb, hc⟩ := hA.get hlt
      have hel := elem_get hp hlt
      generalize p[k] = y at *
      obtain ⟨hy1, hy2⟩ := hel
      go_wp2_with (go_at_call 60; refine (must_yes _).mono ?_; rintro e w' ⟨rfl, rfl⟩)
      go_round
      case rel => exact ⟨k + 1, by omega, by go_num⟩
      case measure => simp [intOf]; omega
    · go_wp2
      go_end0
      exact ⟨rfl, rfl⟩

set_option maxHeartbeats 400000 in
theorem elements_no (q : Int) (A : Option Addr) (c : Nat) (p : List Int) (w : World) (hp : elemB q p = false) (hA : Ints w A p) (hl : p.length ≤ 1000000) :
    Calls Try.prog 59 #[.int .i64 q, .slice A p.length c] w fun e w' => e = .panicked (refusal 1) ∧ w' = w := by
  go_enter Try.func59, Try.ntmps59
  go_wp2
  go_loop [8] (fun t => ∃ k : Nat, k ≤ p.length ∧ t = .int .i64 k ∧ ∀ j (hj : j < p.length), j < k → 0 ≤ p[j] ∧ p[j] < q) (fun t => p.length - (intOf t).toNat)
  case atStart => exact ⟨0, by omega, rfl, by omega⟩
  case round =>
    obtain ⟨k, hk, rfl, hall⟩ := hrel
    have HA := Lib.hid hall
    clear hall
    by_cases hlt : k < p.length
    · obtain ⟨b, off, rfl, hb, hc⟩ := hA.get hlt
      obtain ⟨y, hy⟩ : ∃ y, p[k] = y := ⟨_, rfl⟩
      rw [hy] at hc
      have HY := Lib.hid hy
      clear hy
      by_cases h1 : 0 ≤ y
      · by_cases h2 : y < q
        · go_wp2_with (go_at_call 60; refine (must_yes _).mono ?_; rintro e w' ⟨rfl, rfl⟩)
          go_round
          case rel =>
            refine ⟨k + 1, by omega, by go_num, fun j hj hjk => ?_⟩
            by_cases e : j = k
            · subst e; rw [HY.out]; exact ⟨h1, h2⟩
            · exact HA.out j hj (by omega)
          case measure => simp [intOf]; omega
        · go_wp2_with (go_at_call 60; refine (must_no _).mono ?_; rintro e w' ⟨rfl, rfl⟩)
          exact ⟨rfl, rfl, rfl⟩
      · go_wp2_with (go_at_call 60; refine (must_no _).mono ?_; rintro e w' ⟨rfl, rfl⟩)
        exact ⟨rfl, rfl, rfl⟩
    · exfalso
      rw [elemB_of q p (fun j hj => HA.out j hj (by omega))] at hp
      cases hp

theorem over_yes (q : Int) (w : World) (hq : primeB q = true) : Calls Try.prog 58 #[.int .i64 q] w fun e w' => e = .returned (.int .i64 q) ∧ w' = w := by
  go_enter Try.func58, Try.ntmps58
  go_wp2_with (first | (go_at_call 32; refine (prime_any _ _).mono ?_; rintro e w' ⟨rfl, rfl⟩) | (go_at_call 60; refine (must_yes _).mono ?_; rintro e w' ⟨rfl, rfl⟩))
  go_ret
  exact ⟨rfl, rfl⟩

theorem over_no (q : Int) (w : World) (hq : primeB q = false) : Calls Try.prog 58 #[.int .i64 q] w fun e w' => e = .panicked (refusal 1) ∧ w' = w := by
  go_enter Try.func58, Try.ntmps58
  go_wp2_with (first | (go_at_call 32; refine (prime_any _ _).mono ?_; rintro e w' ⟨rfl, rfl⟩) | (go_at_call 60; refine (must_no _).mono ?_; rintro e w' ⟨rfl, rfl⟩))
  exact ⟨rfl, rfl, rfl⟩
end Go.Proofs.Ytneliejncfncdaa
