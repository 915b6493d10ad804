/- The reference's Rising. -/
import Derived.Test.YtneliejncfncdaaGb
namespace Go.Proofs.Ytneliejncfncdaa
open Go.RowKit

set_option maxHeartbeats 1600000 in
theorem refRising_any (A : Option Addr) (c n : Nat) (l : List Int) (limit : Int) (w : World) (hA : Ints w A l) (hn : l.length = n) (hb : n ≤ 1000000) (hlim : 0 ≤ limit ∧ limit ≤ 1000000) :
    Calls Try.prog 28 #[.slice A n c, .int .i64 limit] w fun e w' => e = .returned (.bool (rsB limit (-1) l)) ∧ ∃ z, w' = w.drewN z := by
  have HN := Lib.hid hn
  obtain ⟨hl1, hl2⟩ := hlim
  clear hn
  go_enter Try.func28, Try.ntmps28
  go_wp2
  go_loopw [5] (fun i wr => ∃ (k : Nat) (z : Int), k ≤ n ∧ i = .int .i64 k ∧ (0 < k → l[k - 1]? = some z) ∧ (k = 0 → z = -1) ∧ (-1 ≤ z) ∧ rsB limit (-1) l = rsB limit z (l.drop k) ∧ ∃ nd, wr = w.drewN nd) (fun i _ => n - (intOf i).toNat)
  case atStart => exact ⟨0, -1, by omega, rfl, by omega, fun _ => rfl, by omega, rfl, 0, rfl⟩
  case round =>
    obtain ⟨k, z, hk, rfl, hz1, hz0, hzm1, hr, nd, rfl⟩ := hrel
    by_cases hlt : k < n
    · obtain ⟨b, o, rfl, hl, hc⟩ := hA.get (k := k) (by rw [HN.out]; exact hlt)
      have hkl : k < l.length := by rw [HN.out]; exact hlt
      have hd : l.drop k = l[k] :: l.drop (k + 1) := (List.drop_eq_getElem_cons hkl)
      rw [hd] at hr
      have hxk : l[k]? = some l[k] := List.getElem?_eq_getElem hkl
      generalize l[k] = x at *
      rw [rsB] at hr
      clear hd
      have HXK := Lib.hid hxk
      clear hxk
      by_cases hk0 : k = 0
      · have hz := hz0 hk0
        subst hk0 hz
        simp only [Nat.add_zero] at hc
        by_cases h2 : 0 ≤ x ∧ x ≤ limit - 1
        · rw [decide_eq_true (show (-1 : Int) < x by omega), decide_eq_true (show x < limit by omega), Bool.true_and, Bool.true_and] at hr
          have HR := Lib.hid hr
          have H2 := Lib.hid h2
          clear hr hz1 hz0 h2
          go_wp2
          go_quiet ((first | (go_at_call 63; exact Calls.quiet_add_same (in_yes _ _ _ _ H2.out.1 H2.out.2))))
          go_wp2
          go_roundw
          case rel => exact ⟨1, x, by omega, by go_num, fun _ => HXK.out, by omega, by have := H2.out; omega, HR.out, _, rfl⟩
          case measure => simp [intOf]; omega
        · have hr2 : rsB limit (-1) l = false := by
            rw [hr]
            by_cases hx : 0 ≤ x
            · rw [decide_eq_false (show ¬ x < limit by omega)]; simp
            · rw [decide_eq_false (show ¬ (-1 : Int) < x by omega)]; simp
          have HR := Lib.hid hr2
          have H2 := Lib.hid h2
          clear hr hr2 hz1 hz0 h2
          go_wp2
          go_quiet ((first | (go_at_call 63; exact Calls.quiet_add_same (in_no _ _ _ _ H2.out))))
          go_wp2
          go_ret
          exact ⟨ret_bool HR.out.symm, _, drewN2 _ _ _⟩
      · have hzz := hz1 (by omega)
        obtain ⟨m, rfl⟩ : ∃ m, k = m + 1 := ⟨k - 1, by omega⟩
        obtain ⟨b', o', he', hl', hc'⟩ := hA.get (k := m) (by rw [HN.out]; omega)
        cases he'
        have hzm : l[m]'(by rw [HN.out]; omega) = z := by
          simp only [Nat.add_sub_cancel] at hzz
          have := (List.getElem?_eq_some_iff.1 hzz).2
          simpa using this
        rw [hzm] at hc'
        have hm1 : (((m + 1 : Nat) : Int) - 1) = (m : Int) := by omega
        have HM1 := Lib.hid hm1
        clear hzz hzm hm1 hz1 hz0
        by_cases h2 : 0 ≤ x ∧ x ≤ limit - 1
        · have H2 := Lib.hid h2
          by_cases h1 : z < x
          · rw [decide_eq_true h1, decide_eq_true (show x < limit by omega), Bool.true_and, Bool.true_and] at hr
            have HR := Lib.hid hr
            have g1 : decide (x ≤ z) = false := decide_eq_false (by omega)
            have g3 : ¬ x ≤ z := by omega
            clear hr h2
            go_wp2
            go_quiet ((first | (go_at_call 63; exact Calls.quiet_add_same (in_yes _ _ _ _ H2.out.1 H2.out.2))))
            go_wp2
            go_roundw
            case rel => exact ⟨m + 1 + 1, x, by omega, by go_num, fun _ => HXK.out, by omega, by have := H2.out; omega, HR.out, _, rfl⟩
            case measure => simp [intOf]; omega
          · have hr2 : rsB limit (-1) l = false := by rw [hr, decide_eq_false h1]; simp
            have HR := Lib.hid hr2
            have g1 : decide (x ≤ z) = true := decide_eq_true (by omega)
            have g3 : x ≤ z := by omega
            clear hr hr2 h2
            go_wp2
            go_quiet ((first | (go_at_call 63; exact Calls.quiet_add_same (in_yes _ _ _ _ H2.out.1 H2.out.2))))
            go_wp2
            go_ret
            exact ⟨ret_bool HR.out.symm, _, drewN2 _ _ _⟩
        · have H2 := Lib.hid h2
          have hzb : 0 ≤ x → ¬ (z < x ∧ x < limit) := fun h0 h => h2 ⟨h0, by omega⟩
          by_cases hx : x < limit ∧ z < x
          · exfalso; omega
          · have hr2 : rsB limit (-1) l = false := by
              rw [hr]
              by_cases h1 : z < x
              · rw [decide_eq_false (show ¬ x < limit by omega)]; simp
              · rw [decide_eq_false h1]; simp
            have HR := Lib.hid hr2
            clear hr hr2 h2 hzb hx
            go_wp2
            go_quiet ((first | (go_at_call 63; exact Calls.quiet_add_same (in_no _ _ _ _ H2.out))))
            go_wp2
            go_ret
            exact ⟨ret_bool HR.out.symm, _, drewN2 _ _ _⟩
    · obtain rfl : k = n := by omega
      have hr2 : rsB limit (-1) l = true := by
        rw [hr, List.drop_eq_nil_of_le (by rw [HN.out]; omega)]; rfl
      have HR := Lib.hid hr2
      clear hr hr2 hz1 hz0
      go_wp2
      go_ret
      exact ⟨ret_bool HR.out.symm, _, rfl⟩
end Go.Proofs.Ytneliejncfncdaa
