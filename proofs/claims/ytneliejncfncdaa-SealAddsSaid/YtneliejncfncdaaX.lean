/- The reference's Value. -/
import Derived.Test.YtneliejncfncdaaV
namespace Go.Proofs.Ytneliejncfncdaa
open Go.RowKit

/-- A polynomial's value over the integers. -/
def pe (x : Int) : List Int → Int
  | [] => 0
  | c :: cs => c + x * pe x cs
theorem emod_near (q a : Int) : ∃ k, a % q = a + q * k := ⟨-(a / q), by have := Int.emod_add_mul_ediv a q; grind⟩
theorem hv_near (q x : Int) : ∀ l, ∃ k, hv q x l = pe x l + q * k
  | [] => ⟨0, by simp [hv, pe]⟩
  | c :: cs => by
    obtain ⟨k, hk⟩ := hv_near q x cs
    obtain ⟨k1, h1⟩ := emod_near q (hv q x cs * x)
    obtain ⟨k2, h2⟩ := emod_near q (hv q x cs * x % q + c)
    refine ⟨k * x + k1 + k2, ?_⟩
    rw [hv, pe, h2, h1, hk]
    grind
theorem pw_near (q x : Int) : ∀ n, ∃ k, pw q x n = x ^ n + q * k
  | 0 => ⟨0, by simp [pw]⟩
  | n + 1 => by
    obtain ⟨k, hk⟩ := pw_near q x n
    obtain ⟨k1, h1⟩ := emod_near q (pw q x n * x)
    refine ⟨k * x + k1, ?_⟩
    rw [pw, h1, hk, Int.pow_succ]
    grind
theorem pe_append (x c : Int) : ∀ l, pe x (l ++ [c]) = pe x l + c * x ^ l.length
  | [] => by simp [pe]
  | d :: l => by
    have := pe_append x c l
    simp only [List.cons_append, pe, this, List.length_cons, Int.pow_succ]
    grind
theorem near_eq {q a b k : Int} (ha : 0 ≤ a ∧ a < q) (hb : 0 ≤ b ∧ b < q) (h : a = b + q * k) : a = b := by
  have h1 : a % q = a := Int.emod_eq_of_lt ha.1 ha.2
  have h2 : b % q = b := Int.emod_eq_of_lt hb.1 hb.2
  rw [← h1, ← h2, h]
  simp

/-- The reference's sum. -/
def sv (q x : Int) (l : List Int) : Nat → Int
  | 0 => 0
  | k + 1 => (sv q x l k + l.getD k 0 * pw q x k) % q
theorem sv_bd {q : Int} (hq : 1 ≤ q) (x : Int) (l : List Int) : ∀ k, 0 ≤ sv q x l k ∧ sv q x l k < q
  | 0 => ⟨Int.le_refl _, by simp [sv]; omega⟩
  | _ + 1 => ⟨Int.emod_nonneg _ (by omega), Int.emod_lt_of_pos _ (by omega)⟩
theorem sv_near (q x : Int) (l : List Int) : ∀ n, n ≤ l.length → ∃ k, sv q x l n = pe x (l.take n) + q * k
  | 0, _ => ⟨0, by simp [sv, pe]⟩
  | n + 1, hn => by
    obtain ⟨k, hk⟩ := sv_near q x l n (by omega)
    obtain ⟨k1, h1⟩ := pw_near q x n
    obtain ⟨k2, h2⟩ := emod_near q (sv q x l n + l.getD n 0 * pw q x n)
    have hx : l.take (n + 1) = l.take n ++ [l.getD n 0] := by
      rw [List.take_add_one, List.getElem?_eq_getElem (by omega)]
      simp [List.getD, show n < l.length by omega]
    have hl : (l.take n).length = n := by simp; omega
    refine ⟨k + l.getD n 0 * k1 + k2, ?_⟩
    rw [sv, h2, hx, pe_append, hl, hk, h1]
    grind
theorem sv_hv {q : Int} (hq : 1 ≤ q) (x : Int) (l : List Int) : sv q x l l.length = hv q x l := by
  obtain ⟨k, hk⟩ := sv_near q x l l.length (Nat.le_refl _)
  obtain ⟨k1, h1⟩ := hv_near q x l
  rw [List.take_length] at hk
  exact near_eq (k := k - k1) (sv_bd hq x l _) (hv_bd hq l) (by rw [hk, h1]; grind)

set_option maxHeartbeats 800000 in
theorem refValue_any (q x : Int) (A : Option Addr) (c n : Nat) (l : List Int) (w : World) (hq : 2 ≤ q ∧ q ≤ 31) (hx : 0 ≤ x ∧ x ≤ 1000) (hl : elemB q l = true) (hA : Ints w A l) (hn : l.length = n) (hb : n ≤ 1000000) :
    Calls Try.prog 34 #[.int .i64 q, .slice A n c, .int .i64 x] w fun e w' => e = .returned (.int .i64 (hv q x l)) ∧ w' = w := by
  obtain ⟨hq1, hq2⟩ := hq
  obtain ⟨hx1, hx2⟩ := hx
  have hs := sv_hv (q := q) (by omega) x l
  rw [hn] at hs
  have HS := Lib.hid hs
  have HN := Lib.hid hn
  clear hn hs
  go_enter Try.func34, Try.ntmps34
  go_wp2
  go_loop [7, 8, 9] (fun s p i => ∃ k : Nat, k ≤ n ∧ i = .int .i64 k ∧ s = .int .i64 (sv q x l k) ∧ p = .int .i64 (pw q x k)) (fun _ _ i => n - (intOf i).toNat)
  case atStart => exact ⟨0, by omega, rfl, rfl, rfl⟩
  case round =>
    obtain ⟨k, hk, rfl, rfl, rfl⟩ := hrel
    by_cases hlt : k < n
    · obtain ⟨b, o, rfl, hbl, hc⟩ := hA.get (k := k) (by rw [HN.out]; exact hlt)
      have hkl : k < l.length := by rw [HN.out]; exact hlt
      have hy := elem_get hl (k := k) hkl
      have hs1 : sv q x l (k + 1) = (sv q x l k + l[k] * pw q x k) % q := by rw [sv]; simp [List.getD, hkl]
      have hp1 : pw q x (k + 1) = pw q x k * x % q := rfl
      have hsb := sv_bd (q := q) (by omega) x l k
      have hpb := pw_bd (q := q) (a := x) hq1 k
      generalize l[k] = y at *
      have HS1 := Lib.hid hs1
      have HP1 := Lib.hid hp1
      clear hs1 hp1
      generalize sv q x l k = s at *
      generalize pw q x k = p at *
      obtain ⟨hy1, hy2⟩ := hy
      obtain ⟨hsb1, hsb2⟩ := hsb
      obtain ⟨hpb1, hpb2⟩ := hpb
      have m1 : 0 ≤ y * p := Int.mul_nonneg hy1 hpb1
      have m2 : y * p ≤ 31 * 31 := Int.mul_le_mul (by omega) (by omega) (by omega) (by omega)
      have m3 : 0 ≤ p * x := Int.mul_nonneg hpb1 hx1
      have m4 : p * x ≤ 31 * 1000 := Int.mul_le_mul (by omega) (by omega) (by omega) (by omega)
      have hw1 : IntKind.i64.wrap (y * p) = y * p := IntWalk.i64_in _ (by omega)
      have hw2 : IntKind.i64.wrap (s + y * p) = s + y * p := IntWalk.i64_in _ (by omega)
      have hw3 : IntKind.i64.wrap (p * x) = p * x := IntWalk.i64_in _ (by omega)
      have hq0 : ¬ q = 0 := by omega
      go_wp2
      go_round
      case rel => exact ⟨k + 1, by omega, by go_num, by rw [HS1.out], by rw [HP1.out]⟩
      case measure => simp [intOf]; omega
    · obtain rfl : k = n := by omega
      go_wp2
      go_ret
      exact ⟨ret_int (by rw [HS.out]), rfl⟩
end Go.Proofs.Ytneliejncfncdaa
