/- Texts Fa Fb Fc Fd in one. -/
import Derived.Test.YtneliejncfncdaaPkQ
namespace Go.Proofs.Ytneliejncfncdaa
open Go.RowKit

theorem fold_any (v n : Int) (w : World) (hv : -9223372036854775808 ≤ v ∧ v ≤ 9223372036854775807) (hn : 1 ≤ n ∧ n ≤ 1000000) :
    Calls Try.prog 26 #[.int .i64 v, .int .i64 n] w fun e w' => e = .returned (.int .i64 (v % n)) ∧ w' = w := by
  obtain ⟨hv1, hv2⟩ := hv
  obtain ⟨hn1, hn2⟩ := hn
  have h1 : -n < v.tmod n := Int.lt_tmod_of_pos v (by omega)
  have h2 : v.tmod n < n := Int.tmod_lt_of_pos v (by omega)
  have hw : IntKind.i64.wrap (v.tmod n + n) = v.tmod n + n := IntWalk.i64_in _ (by omega)
  have hw0 : IntKind.i64.wrap (v.tmod n) = v.tmod n := IntWalk.i64_in _ (by omega)
  have h0 : 0 ≤ v.tmod n + n := by omega
  have e1 : (v.tmod n + n).tmod n = v % n := by
    rw [Int.tmod_eq_emod_of_nonneg h0, Int.tmod_def]
    rw [show v - n * v.tdiv n + n = v + n * (1 - v.tdiv n) by grind]
    simp
  have e2 : (v.tmod n + n) % n = v % n := by rw [← e1, Int.tmod_eq_emod_of_nonneg h0]
  have hn0 : ¬ n = 0 := by omega
  have E1 := Lib.hid e1
  have E2 := Lib.hid e2
  clear e1 e2
  go_enter Try.func26, Try.ntmps26
  go_wp2
  go_ret
  exact ⟨ret_int (by first | rw [E1.out] | rw [E2.out]), rfl⟩
end Go.Proofs.Ytneliejncfncdaa

namespace Go.Proofs.Ytneliejncfncdaa
open Go.RowKit

/-- A number that an int holds. -/
def I64 (v : Int) : Prop := -9223372036854775808 ≤ v ∧ v ≤ 9223372036854775807

/-- Elements made of any numbers. -/
def folds (q : Int) (l : List Int) : List Int := l.map (· % q)
theorem folds_length (q : Int) (l : List Int) : (folds q l).length = l.length := by simp [folds]
theorem folds_elem {q : Int} (hq : 1 ≤ q) (l : List Int) : elemB q (folds q l) = true := by
  refine elemB_of _ _ fun j hj => ?_
  simp only [folds, List.getElem_map]
  exact ⟨Int.emod_nonneg _ (by omega), Int.emod_lt_of_pos _ (by omega)⟩

set_option maxRecDepth 100000 in
set_option maxHeartbeats 800000 in
theorem elements_law (q : Int) (A : Option Addr) (c n m : Nat) (l : List Int) (w : World) (hq : 2 ≤ q ∧ q ≤ 31) (hl : ∀ x ∈ l, I64 x) (hA : Ints w A l) (hn : l.length = n) (hm : m ≤ 1000) :
    Calls Try.prog 36 #[.int .i64 q, .slice A n c, .int .i64 m] w (RetInts (folds q (l.take m)) w) := by
  obtain ⟨hq1, hq2⟩ := hq
  have h0 : OwnI (w.alloc (.cells #[] 3)) w.heap.size (.slice (some ⟨w.heap.size, 0, none⟩) 0 0) 0 [] := World.ownsRow_lit w #[] 0 (Nat.le_refl _) (by simp [maxLen]) rfl
  have hb0 : Below w.heap.size w (w.alloc (.cells #[] 3)) := (Below.refl _ _).alloc (Nat.le_refl _) _
  have HN := Lib.hid hn
  clear hn
  go_enter Try.func36, Try.ntmps36
  go_wp2_with fail
  go_loopw [7, 8] (fun d i wr => ∃ k : Nat, k ≤ n ∧ k ≤ m ∧ i = .int .i64 k ∧ OwnI wr w.heap.size d k (folds q (l.take k)) ∧ Below w.heap.size w wr) (fun _ i _ => n - (intOf i).toNat)
  case atStart => exact ⟨0, by omega, by omega, rfl, h0, hb0⟩
  case round =>
    clear h0 hb0
    obtain ⟨k, hk, hkm, rfl, hV, hB⟩ := hrel
    have hsz := hB.size
    by_cases hlt : k < n
    · by_cases hlm : k < m
      · obtain ⟨b, o, rfl, hbl, hc⟩ := hA.get (k := k) (by rw [HN.out]; exact hlt)
        have hkl : k < l.length := by rw [HN.out]; exact hlt
        have hcr := (hB.cell (p := ⟨b, o + k, none⟩) hbl).trans hc
        have hx : l.take (k + 1) = l.take k ++ [l[k]] := by rw [List.take_add_one, List.getElem?_eq_getElem hkl]; rfl
        have hxb : I64 l[k] := hl _ (List.getElem_mem hkl)
        generalize l[k] = x at *
        have hf : folds q (l.take (k + 1)) = folds q (l.take k) ++ [x % q] := by rw [hx]; simp [folds]
        have HF := Lib.hid hf
        clear hx hf hc
        have cf : ∀ W, Calls Try.prog 26 #[.int .i64 x, .int .i64 q] W fun e w' => e = .returned (.int .i64 (x % q)) ∧ W = w' := fun W => (fold_any x q W hxb ⟨by omega, by omega⟩).mono fun e w' h => ⟨h.1, h.2.symm⟩
        generalize x % q = y at *
        go_wp2_with (first | (go_at_call 26; refine (cf _).mono ?_; rintro e w' ⟨rfl, rfl⟩) | (at_builtin; refine wpList_int _ rfl _ _ rfl w.heap.size _ k _ rfl (hV.alloc _) wr.heap.size y rfl (heap_alloc_new wr _) (by omega) (by simp; omega) (wr.heap.size + 1) (by simp) ?_))
        intro g cap w3 hV3 hgr hat hlt3
        have hB3 := (hB.alloc hsz (.cells #[.int .i64 y] 3)).grown hgr (by simp; omega) (fun g hg => (hV.lt g hg).1)
        clear hV hB hgr hat hcr
        go_wp2
        go_roundw
        case rel => exact ⟨k + 1, by omega, by omega, by go_num, by rw [HF.out]; exact hV3, hB3⟩
        case measure => simp [intOf]; omega
      · obtain rfl : k = m := by omega
        have hsl := hV.sli
        go_wp2
        go_ret
        exact ⟨_, rfl, hsl, hB⟩
    · obtain rfl : k = n := by omega
      have hsl := hV.sli
      have he : l.take m = l.take k := by rw [List.take_of_length_le (by rw [HN.out]; omega), List.take_of_length_le (by rw [HN.out]; omega)]
      have HE := Lib.hid he
      clear he
      go_wp2
      go_ret
      exact ⟨_, rfl, by rw [HE.out]; exact hsl, hB⟩
end Go.Proofs.Ytneliejncfncdaa

namespace Go.Proofs.Ytneliejncfncdaa
open Go.RowKit

/-- The order that a number names. -/
def ordP (n : Int) : Int := ([2, 3, 5, 7, 11, 13, 17, 19, 23, 29, 31] : List Int).getD (n % 11).toNat 0

set_option maxRecDepth 100000 in
set_option maxHeartbeats 1600000 in
theorem order_any (n : Int) (w : World) (hn : I64 n) : Calls Try.prog 35 #[.int .i64 n] w fun e w' => e = .returned (.int .i64 (ordP n)) ∧ Below w.heap.size w w' := by
  have hf : ∀ W, Calls Try.prog 26 #[.int .i64 n, .int .i64 11] W fun e w' => e = .returned (.int .i64 (n % 11)) ∧ W = w' := fun W => (fold_any n 11 W hn ⟨by omega, by omega⟩).mono fun e w' h => ⟨h.1, h.2.symm⟩
  have h0 := Int.emod_nonneg n (show (11 : Int) ≠ 0 by omega)
  have h1 := Int.emod_lt_of_pos n (show (0 : Int) < 11 by omega)
  have hb0 : Below w.heap.size w (w.alloc (.cells #[.int .i64 2, .int .i64 3, .int .i64 5, .int .i64 7, .int .i64 11, .int .i64 13, .int .i64 17, .int .i64 19, .int .i64 23, .int .i64 29, .int .i64 31] 3)) := (Below.refl _ _).alloc (Nat.le_refl _) _
  unfold ordP
  generalize n % 11 = r at *
  have hr : r = 0 ∨ r = 1 ∨ r = 2 ∨ r = 3 ∨ r = 4 ∨ r = 5 ∨ r = 6 ∨ r = 7 ∨ r = 8 ∨ r = 9 ∨ r = 10 := by omega
  rcases hr with rfl | rfl | rfl | rfl | rfl | rfl | rfl | rfl | rfl | rfl | rfl
  all_goals
    clear h0 h1
    go_enter Try.func35, Try.ntmps35
    go_wp2_with (go_at_call 26; refine (hf _).mono ?_; rintro e w' ⟨rfl, rfl⟩)
    go_ret
    exact ⟨rfl, hb0⟩

theorem ordP_prime (n : Int) : primeB (ordP n) = true := by
  have h0 := Int.emod_nonneg n (show (11 : Int) ≠ 0 by omega)
  have h1 := Int.emod_lt_of_pos n (show (0 : Int) < 11 by omega)
  unfold ordP
  generalize n % 11 = r at *
  have hr : r = 0 ∨ r = 1 ∨ r = 2 ∨ r = 3 ∨ r = 4 ∨ r = 5 ∨ r = 6 ∨ r = 7 ∨ r = 8 ∨ r = 9 ∨ r = 10 := by omega
  rcases hr with rfl | rfl | rfl | rfl | rfl | rfl | rfl | rfl | rfl | rfl | rfl <;> rfl
end Go.Proofs.Ytneliejncfncdaa

namespace Go.Proofs.Ytneliejncfncdaa
open Go.RowKit

set_option maxHeartbeats 800000 in
theorem has_any (A : Option Addr) (c n : Nat) (l : List Int) (y : Int) (w : World) (hA : Ints w A l) (hn : l.length = n) (hb : n ≤ 1000000) :
    Calls Try.prog 29 #[.slice A n c, .int .i64 y] w fun e w' => e = .returned (.bool (decide (y ∈ l))) ∧ w' = w := by
  have HN := Lib.hid hn
  clear hn
  go_enter Try.func29, Try.ntmps29
  go_wp2
  go_loop [5] (fun i => ∃ k : Nat, k ≤ n ∧ i = .int .i64 k ∧ y ∉ l.take k) (fun i => n - (intOf i).toNat)
  case atStart => exact ⟨0, by omega, rfl, by simp⟩
  case round =>
    obtain ⟨k, hk, rfl, ht⟩ := hrel
    by_cases hlt : k < n
    · obtain ⟨b, o, rfl, hl, hc⟩ := hA.get (k := k) (by rw [HN.out]; exact hlt)
      have hkl : k < l.length := by rw [HN.out]; exact hlt
      have hx : l.take (k + 1) = l.take k ++ [l[k]] := by rw [List.take_add_one, List.getElem?_eq_getElem hkl]; rfl
      have hin : l[k] ∈ l := List.getElem_mem hkl
      generalize l[k] = x at *
      by_cases hxy : x = y
      · subst hxy
        have hd := Lib.hid (decide_eq_true hin)
        clear hx ht hin
        go_wp2
        go_ret
        exact ⟨ret_bool hd.out.symm, rfl⟩
      · have hb1 : (x == y) = false := by simpa using hxy
        have hnt : y ∉ l.take (k + 1) := by rw [hx]; simp [ht, Ne.symm hxy]
        have HT := Lib.hid hnt
        clear hx ht hin hnt
        go_wp2
        go_round
        case rel => exact ⟨k + 1, by omega, by go_num, HT.out⟩
        case measure => simp [intOf]; omega
    · obtain rfl : k = n := by omega
      rw [List.take_of_length_le (by rw [HN.out]; omega)] at ht
      have hd := Lib.hid (decide_eq_false ht)
      clear ht
      go_wp2
      go_ret
      exact ⟨ret_bool hd.out.symm, rfl⟩
end Go.Proofs.Ytneliejncfncdaa
