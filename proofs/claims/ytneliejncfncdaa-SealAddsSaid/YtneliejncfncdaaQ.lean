/- seal.Read. -/
import Derived.Test.YtneliejncfncdaaO
import Derived.Test.YtneliejncfncdaaE
namespace Go.Proofs.Ytneliejncfncdaa
open Go.RowKit

theorem enter57 : ∀ args w, (callFunc 57 args).run Try.prog w = .ok (.enter 57 args) w := fun _ _ => by kernel_rfl

/-- In how many of the first places a polynomial's value is another. -/
def wrongs (q : Int) (p word : List Int) : Nat → Nat
  | 0 => 0
  | m + 1 => wrongs q p word m + (if hv q m p = word.getD m 0 then 0 else 1)
theorem wrongs_le (q : Int) (p word : List Int) : ∀ m, wrongs q p word m ≤ m
  | 0 => Nat.le_refl _
  | m + 1 => by
    have := wrongs_le q p word m
    rw [wrongs]
    split <;> omega

theorem quoF_bd {q : Int} (hq : 1 ≤ q) (d : List Int) {p : List Int} (hp : elemB q p = true) (L i : Nat) : 0 ≤ quoF q d p L i ∧ quoF q d p L i < q := by
  unfold quoF
  have := remN_elem hq d hp L (L - 1 - i)
  generalize remN q d p L (L - 1 - i) = r at *
  simp only [List.getD]
  cases h : r[i + d.length - 1]? with
  | none => simp; omega
  | some x => exact (elemB_iff' q r).1 this _ x h
theorem bwL_elem {q : Int} (hq : 2 ≤ q) (word : List Int) (hw : elemB q word = true) (k t : Nat) : elemB q (bwL q word k t) = true := by
  unfold bwL bwSt
  exact outOf_elem (by omega) (steps_facts (pwf q) q (by omega) _ _ _ (bwRows_good hq word hw k t word.length) (2 * t + k) (Nat.le_refl _)).2.1 _
theorem mendP_elem {q : Int} (hq : 2 ≤ q) (word : List Int) (hw : elemB q word = true) (k t : Nat) : elemB q (mendP q word k t) = true := by
  refine elemB_of _ _ fun j hj => ?_
  simp only [mendP, List.getElem_map]
  exact quoF_bd (by omega) _ (elemB_take (bwL_elem hq word hw k t) _) _ _
theorem mendP_length (q : Int) (word : List Int) (k t : Nat) : (mendP q word k t).length = k := by simp [mendP]

section
variable (q : Int) (A : Option Addr) (c n : Nat) (word : List Int) (w : World) (Bq Bw Bk Bm Bn : Nat)

theorem rd1_no (hq : One w Bq (.int .i64 q) 3) (h : primeB q = false) :
    Calls Try.prog 57 #[.pointer (some ⟨Bq, 0, none⟩), .pointer (some ⟨Bw, 0, none⟩), .pointer (some ⟨Bk, 0, none⟩), .pointer (some ⟨Bm, 0, none⟩), .pointer (some ⟨Bn, 0, none⟩)] w fun e w' => e = .panicked (refusal 1) ∧ Fr [] w w' ∧ True := by
  have cq := hq.cell
  go_enter Try.func57, Try.ntmps57
  go_wp2_with (go_at_call 58; refine (over_no _ _ h).mono ?_; rintro e w' ⟨rfl, rfl⟩)
  exact ⟨rfl, rfl, Fr.refl _ _, trivial⟩

theorem rd1_out (hq : One w Bq (.int .i64 q) 3) (hp : One w Bw (.slice A word.length c) 22) (hA : Ints w A word) (hl : word.length ≤ 1000000) (h : primeB q = true) (h2 : elemB q word = false) :
    Calls Try.prog 57 #[.pointer (some ⟨Bq, 0, none⟩), .pointer (some ⟨Bw, 0, none⟩), .pointer (some ⟨Bk, 0, none⟩), .pointer (some ⟨Bm, 0, none⟩), .pointer (some ⟨Bn, 0, none⟩)] w fun e w' => e = .panicked (refusal 1) ∧ Fr [] w w' ∧ True := by
  have cq := hq.cell
  have cp := hp.cell
  go_enter Try.func57, Try.ntmps57
  go_wp2_with (first | (go_at_call 58; refine (over_yes _ _ h).mono ?_; rintro e w' ⟨rfl, rfl⟩) | (go_at_call 59; refine (elements_no q _ _ word _ h2 hA hl).mono ?_; rintro e w' ⟨rfl, rfl⟩))
  exact ⟨rfl, rfl, Fr.refl _ _, trivial⟩

theorem rd1_must (k : Int) (hq : One w Bq (.int .i64 q) 3) (hp : One w Bw (.slice A word.length c) 22) (hk : One w Bk (.int .i64 k) 3) (hA : Ints w A word) (hl : word.length ≤ 1000000) (h : primeB q = true) (h2 : elemB q word = true)
    (h3 : (decide (1 ≤ k) && decide (k ≤ (word.length : Int)) && decide ((word.length : Int) ≤ q)) = false) :
    Calls Try.prog 57 #[.pointer (some ⟨Bq, 0, none⟩), .pointer (some ⟨Bw, 0, none⟩), .pointer (some ⟨Bk, 0, none⟩), .pointer (some ⟨Bm, 0, none⟩), .pointer (some ⟨Bn, 0, none⟩)] w fun e w' => e = .panicked (refusal 1) ∧ Fr [] w w' ∧ True := by
  have cq := hq.cell
  have cp := hp.cell
  have ck := hk.cell
  have lq := hq.lt
  have lp := hp.lt
  have lk := hk.lt
  have H3 := Lib.hid h3
  clear h3
  cases e1 : decide (1 ≤ k) with
  | false =>
    clear H3
    go_enter Try.func57, Try.ntmps57
    go_wp2_with (first | (go_at_call 58; refine (over_yes _ _ h).mono ?_; rintro e w' ⟨rfl, rfl⟩) | (go_at_call 59; refine (elements_yes q _ _ word _ h2 hA hl).mono ?_; rintro e w' ⟨rfl, rfl⟩) | (go_at_call 60; refine (must_no _).mono ?_; rintro e w' ⟨rfl, rfl⟩))
    exact ⟨rfl, rfl, Fr.refl _ _, trivial⟩
  | true =>
    cases e2 : decide (k ≤ (word.length : Int)) with
    | false =>
      clear H3
      go_enter Try.func57, Try.ntmps57
      go_wp2_with (first | (go_at_call 58; refine (over_yes _ _ h).mono ?_; rintro e w' ⟨rfl, rfl⟩) | (go_at_call 59; refine (elements_yes q _ _ word _ h2 hA hl).mono ?_; rintro e w' ⟨rfl, rfl⟩) | (go_at_call 60; refine (must_no _).mono ?_; rintro e w' ⟨rfl, rfl⟩))
      exact ⟨rfl, rfl, Fr.refl _ _, trivial⟩
    | true =>
      have e3 : decide ((word.length : Int) ≤ q) = false := by
        have := H3.out
        rw [e1, e2] at this
        simpa using this
      clear H3
      go_enter Try.func57, Try.ntmps57
      go_wp2_with (first | (go_at_call 58; refine (over_yes _ _ h).mono ?_; rintro e w' ⟨rfl, rfl⟩) | (go_at_call 59; refine (elements_yes q _ _ word _ h2 hA hl).mono ?_; rintro e w' ⟨rfl, rfl⟩) | (go_at_call 60; refine (must_no _).mono ?_; rintro e w' ⟨rfl, rfl⟩))
      exact ⟨rfl, rfl, Fr.refl _ _, trivial⟩
end
end Go.Proofs.Ytneliejncfncdaa
