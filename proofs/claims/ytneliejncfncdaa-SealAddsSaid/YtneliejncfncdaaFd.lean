/- The law's helper has. -/
import Derived.Test.YtneliejncfncdaaFa
namespace Go.Proofs.Ytneliejncfncdaa
open Go.RowKit

set_option maxHeartbeats 800000 in
theorem has_any (A : Option Addr) (c n : Nat) (l : List Int) (y : Int) (w : World) (hA : Ints w A l) (hn : l.length = n) (hb : n ≤ 1000000) :
    Calls Try.prog 29 #[.slice A n c, .int .i64 y] w fun e w' => e = .returned (.bool (decide (y ∈ l))) ∧ w' = w := by
  have HN := Lib.hid hn
  clear hn
  go_enter Try.func29, Try.ntmps29
  go_wp2
  go_loop [5] (fun i => ∃ k : Nat, k ≤ n ∧ i = .int .i64 k ∧ y ∉ l.take k) (fun i => n - (intOf i).toNat)
  case atStart => exact ⟨0, by omega, rfl, by simp⟩
  case round =>
    obtain ⟨k, hk, rfl, ht⟩ := hrel
    by_cases hlt : k < n
    · obtain ⟨b, o, rfl, hl, hc⟩ := hA.get (k := k) (by rw [HN.out]; exact hlt)
      have hkl : k < l.length := by rw [HN.out]; exact hlt
      have hx : l.take (k + 1) = l.take k ++ [l[k]] := by rw [List.take_add_one, List.getElem?_eq_getElem hkl]; rfl
      have hin : l[k] ∈ l := List.getElem_mem hkl
      generalize l[k] = x at *
      by_cases hxy : x = y
      · subst hxy
        have hd := Lib.hid (decide_eq_true hin)
        clear hx ht hin
        go_wp2
        go_ret
        exact ⟨ret_bool hd.out.symm, rfl⟩
      · have hb1 : (x == y) = false := by simpa using hxy
        have hnt : y ∉ l.take (k + 1) := by rw [hx]; simp [ht, Ne.symm hxy]
        have HT := Lib.hid hnt
        clear hx ht hin hnt
        go_wp2
        go_round
        case rel => exact ⟨k + 1, by omega, by go_num, HT.out⟩
        case measure => simp [intOf]; omega
    · obtain rfl : k = n := by omega
      rw [List.take_of_length_le (by rw [HN.out]; omega)] at ht
      have hd := Lib.hid (decide_eq_false ht)
      clear ht
      go_wp2
      go_ret
      exact ⟨ret_bool hd.out.symm, rfl⟩
end Go.Proofs.Ytneliejncfncdaa
