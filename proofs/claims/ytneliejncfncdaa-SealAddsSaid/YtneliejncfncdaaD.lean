import Derived.Test.YtneliejncfncdaaC
namespace Go.Proofs.Ytneliejncfncdaa
open Go.RowKit

theorem enter66 : ∀ args w, (callFunc 66 args).run Try.prog w = .ok (.enter 66 args) w := fun _ _ => by kernel_rfl

theorem ints_one (w : World) (x : Int) : Ints (w.alloc (.cells #[.int .i64 x] 3)) (some ⟨w.heap.size, 0, none⟩) [x] := by
  refine .inr ⟨w.heap.size, 0, rfl, by simp, ?_⟩
  intro j v hj
  match j, hj with
  | 0, hj => simp at hj; subst hj; exact (One.new w _ _).cell

theorem inv1_no (q a : Int) (w : World) (Bq Ba Bb : Nat) (hq : One w Bq (.int .i64 q) 3) (h : primeB q = false) :
    Calls Try.prog 66 #[.pointer (some ⟨Bq, 0, none⟩), .pointer (some ⟨Ba, 0, none⟩), .pointer (some ⟨Bb, 0, none⟩)] w fun e w' => e = .panicked (refusal 1) ∧ Fr [] w w' ∧ True := by
  have cq := hq.cell
  go_enter Try.func66, Try.ntmps66
  go_wp2_with (go_at_call 58; refine (over_no _ _ h).mono ?_; rintro e w' ⟨rfl, rfl⟩)
  exact ⟨rfl, rfl, Fr.refl _ _, trivial⟩

theorem inv1_out (q a : Int) (w : World) (Bq Ba Bb : Nat) (hq : One w Bq (.int .i64 q) 3) (ha : One w Ba (.int .i64 a) 3) (h : primeB q = true) (h2 : elemB q [a] = false) :
    Calls Try.prog 66 #[.pointer (some ⟨Bq, 0, none⟩), .pointer (some ⟨Ba, 0, none⟩), .pointer (some ⟨Bb, 0, none⟩)] w fun e w' => e = .panicked (refusal 1) ∧ Fr [] w w' ∧ True := by
  have cq := hq.cell
  have ca := ha.cell
  go_enter Try.func66, Try.ntmps66
  go_wp2_with (first | (go_at_call 58; refine (over_yes _ _ h).mono ?_; rintro e w' ⟨rfl, rfl⟩) | (go_at_call 59; refine (elements_no q _ _ [a] _ h2 (ints_one _ _) (by simp)).mono ?_; rintro e w' ⟨rfl, rfl⟩))
  exact ⟨rfl, rfl, (Fr.refl _ _).alloc _, trivial⟩

theorem inv1_zero (q : Int) (w : World) (Bq Ba Bb : Nat) (hq : One w Bq (.int .i64 q) 3) (ha : One w Ba (.int .i64 0) 3) (h : primeB q = true) (h2 : elemB q [0] = true) :
    Calls Try.prog 66 #[.pointer (some ⟨Bq, 0, none⟩), .pointer (some ⟨Ba, 0, none⟩), .pointer (some ⟨Bb, 0, none⟩)] w fun e w' => e = .panicked (refusal 4) ∧ Fr [] w w' ∧ True := by
  have cq := hq.cell
  have ca := ha.cell
  have lq := hq.lt
  have la := ha.lt
  go_enter Try.func66, Try.ntmps66
  go_wp2_with (first | (go_at_call 58; refine (over_yes _ _ h).mono ?_; rintro e w' ⟨rfl, rfl⟩) | (go_at_call 59; refine (elements_yes q _ _ [0] _ h2 (ints_one _ _) (by simp)).mono ?_; rintro e w' ⟨rfl, rfl⟩))
  exact ⟨rfl, rfl, (Fr.refl _ _).alloc _, trivial⟩

theorem inv1_yes (q a : Int) (w : World) (Bq Ba Bb : Nat) (hq : One w Bq (.int .i64 q) 3) (ha : One w Ba (.int .i64 a) 3) (hb : One w Bb (.int .i64 0) 3) (h : primeB q = true) (h2 : elemB q [a] = true) (h3 : ¬ a = 0) :
    Calls Try.prog 66 #[.pointer (some ⟨Bq, 0, none⟩), .pointer (some ⟨Ba, 0, none⟩), .pointer (some ⟨Bb, 0, none⟩)] w fun e w' => e = .returned (.tuple #[]) ∧ Fr [Bb] w w' ∧ One w' Bb (.int .i64 (pw q a (q - 2).toNat)) 3 := by
  have cq := hq.cell
  have ca := ha.cell
  have cb := hb.cell
  have fb := hb.free
  have lq := hq.lt
  have la := ha.lt
  have lb := hb.lt
  have hp := prime_bd h
  obtain ⟨hp1, hp2⟩ := hp
  have he := elem_get h2 (k := 0) (by simp)
  simp only [List.getElem_cons_zero] at he
  obtain ⟨he1, he2⟩ := he
  have h3' : (a == 0) = false := by simpa using h3
  go_enter Try.func66, Try.ntmps66
  go_wp2_with (first | (go_at_call 58; refine (over_yes _ _ h).mono ?_; rintro e w' ⟨rfl, rfl⟩) | (go_at_call 59; refine (elements_yes q _ _ [a] _ h2 (ints_one _ _) (by simp)).mono ?_; rintro e w' ⟨rfl, rfl⟩) | (go_at_call 67; refine (inverse_any q a _ ⟨by omega, by omega⟩ ⟨by omega, by omega⟩).mono ?_; rintro e w' ⟨rfl, rfl⟩))
  go_end0
  exact ⟨rfl, ((Fr.refl _ _).setOne _).alloc _, (hb.set _).alloc _⟩

/-- seal.Inverse. -/
def invR (q a : Int) : Int × Int := if primeB q && elemB q [a] then (if a = 0 then (0, 4) else (pw q a (q - 2).toNat, 0)) else (0, 1)

theorem inverse_top (q a : Int) (w : World) (v n : Int)
    (hg : ∀ w3 : World, One w3 w.heap.size (.int .i64 q) 3 → One w3 (w.heap.size + 1) (.int .i64 a) 3 → One w3 (w.heap.size + 2) (.int .i64 0) 3 → w3.heap.size = w.heap.size + 3 →
      Calls Try.prog 56 #[.func (.func 66) #[] #[.pointer (some ⟨w.heap.size, 0, none⟩), .pointer (some ⟨w.heap.size + 1, 0, none⟩), .pointer (some ⟨w.heap.size + 2, 0, none⟩)]] w3
        fun e w' => e = .returned (.int .i64 n) ∧ Fr [w.heap.size + 2] w3 w' ∧ One w' (w.heap.size + 2) (.int .i64 v) 3) :
    Calls Try.prog 30 #[.int .i64 q, .int .i64 a] w fun e w' => e = .returned (.tuple #[.int .i64 v, .int .i64 n]) ∧ Below w.heap.size w w' := by
  have hmf : ∀ (fn : Fn) (first cap : Array Value) (w : World), (Instr.makeFunc fn first cap).run Try.prog w = .ok (.func fn first cap) w := fun _ _ _ _ => rfl
  have HG := Lib.hid hg
  clear hg
  go_enter Try.func30, Try.ntmps30
  go_wp2_with fail
  refine (HG.out _ ?_ ?_ ?_ ?_).mono ?_
  · exact ((One.new w _ 3).alloc _).alloc _
  · exact (One.newAt (w.alloc _) _ 3 _ (by simp)).alloc _
  · exact One.newAt ((w.alloc _).alloc _) _ 3 _ (by simp)
  · simp
  · rintro e w' ⟨rfl, hf, ho⟩
    have co := ho.cell
    have fo := ho.free
    have lo := ho.lt
    have hfb : Below w.heap.size w w' := ((((Fr.refl [] w).alloc _).alloc _).alloc _).below.trans (hf.belowOf (by simp; omega) (by simp))
    go_wp2
    refine bodyPost_ret (v := .tuple #[.int .i64 v, .int .i64 n]) (by simp [results, Try.results30, go_sem, co]) rfl ⟨rfl, ?_⟩
    exact hfb.setCell (by simp; omega) _

theorem inverse_ret (q a : Int) (w : World) :
    Calls Try.prog 30 #[.int .i64 q, .int .i64 a] w fun e w' => e = .returned (.tuple #[.int .i64 (invR q a).1, .int .i64 (invR q a).2]) ∧ Below w.heap.size w w' := by
  refine inverse_top q a w _ _ fun w3 h1 h2 h3 hs => ?_
  unfold invR
  by_cases hp : primeB q = true
  · by_cases he : elemB q [a] = true
    · by_cases ha : a = 0
      · subst ha
        simp only [hp, he, Bool.and_self, if_true]
        refine (guarded_panicF 66 _ 4 w3 [] (fun _ => True) enter66 (inv1_zero q _ _ _ _ (h1.alloc _) (h2.alloc _) hp he) (by simp)).mono ?_
        rintro e w' ⟨h, hf, _⟩
        exact ⟨h, hf.mono (by simp), h3.fr hf (by simp)⟩
      · simp only [hp, he, Bool.and_self, if_true, if_neg ha]
        refine (guarded_okF 66 _ w3 [w.heap.size + 2] _ enter66 (inv1_yes q a _ _ _ _ (h1.alloc _) (h2.alloc _) (h3.alloc _) hp he ha) (by simp; omega)).mono ?_
        rintro e w' ⟨h, hf, w1, ho, hf1⟩
        exact ⟨h, hf, ho.fr hf1 (by simp; omega)⟩
    · simp only [hp, he, Bool.and_false, Bool.false_eq_true, if_false]
      refine (guarded_panicF 66 _ 1 w3 [] (fun _ => True) enter66 (inv1_out q a _ _ _ _ (h1.alloc _) (h2.alloc _) hp (by simpa using he)) (by simp)).mono ?_
      rintro e w' ⟨h, hf, _⟩
      exact ⟨h, hf.mono (by simp), h3.fr hf (by simp)⟩
  · simp only [hp, Bool.false_and, Bool.false_eq_true, if_false]
    refine (guarded_panicF 66 _ 1 w3 [] (fun _ => True) enter66 (inv1_no q a _ _ _ _ (h1.alloc _) (by simpa using hp)) (by simp)).mono ?_
    rintro e w' ⟨h, hf, _⟩
    exact ⟨h, hf.mono (by simp), h3.fr hf (by simp)⟩

end Go.Proofs.Ytneliejncfncdaa
