import Derived.Test.YtneliejncfncdaaD
namespace Go.Proofs.Ytneliejncfncdaa
open Go.RowKit

theorem enter68 : ∀ args w, (callFunc 68 args).run Try.prog w = .ok (.enter 68 args) w := fun _ _ => by kernel_rfl

theorem Ints.alloc {w : World} {A : Option Addr} {xs : List Int} (h : Ints w A xs) (o : Obj) : Ints (w.alloc o) A xs := Ints.below h ((Below.refl _ _).alloc (Nat.le_refl _) _)

section
variable (q x : Int) (A : Option Addr) (c : Nat) (p : List Int) (w : World) (Bq Bp Bx By : Nat)

theorem val1_no (hq : One w Bq (.int .i64 q) 3) (h : primeB q = false) :
    Calls Try.prog 68 #[.pointer (some ⟨Bq, 0, none⟩), .pointer (some ⟨Bp, 0, none⟩), .pointer (some ⟨Bx, 0, none⟩), .pointer (some ⟨By, 0, none⟩)] w fun e w' => e = .panicked (refusal 1) ∧ Fr [] w w' ∧ True := by
  have cq := hq.cell
  go_enter Try.func68, Try.ntmps68
  go_wp2_with (go_at_call 58; refine (over_no _ _ h).mono ?_; rintro e w' ⟨rfl, rfl⟩)
  exact ⟨rfl, rfl, Fr.refl _ _, trivial⟩

theorem val1_out (hq : One w Bq (.int .i64 q) 3) (hp : One w Bp (.slice A p.length c) 22) (hA : Ints w A p) (hl : p.length ≤ 1000000) (h : primeB q = true) (h2 : elemB q p = false) :
    Calls Try.prog 68 #[.pointer (some ⟨Bq, 0, none⟩), .pointer (some ⟨Bp, 0, none⟩), .pointer (some ⟨Bx, 0, none⟩), .pointer (some ⟨By, 0, none⟩)] w fun e w' => e = .panicked (refusal 1) ∧ Fr [] w w' ∧ True := by
  have cq := hq.cell
  have cp := hp.cell
  go_enter Try.func68, Try.ntmps68
  go_wp2_with (first | (go_at_call 58; refine (over_yes _ _ h).mono ?_; rintro e w' ⟨rfl, rfl⟩) | (go_at_call 59; refine (elements_no q _ _ p _ h2 hA hl).mono ?_; rintro e w' ⟨rfl, rfl⟩))
  exact ⟨rfl, rfl, Fr.refl _ _, trivial⟩

theorem val1_outx (hq : One w Bq (.int .i64 q) 3) (hp : One w Bp (.slice A p.length c) 22) (hx : One w Bx (.int .i64 x) 3) (hA : Ints w A p) (hl : p.length ≤ 1000000) (h : primeB q = true) (h2 : elemB q p = true) (h3 : elemB q [x] = false) :
    Calls Try.prog 68 #[.pointer (some ⟨Bq, 0, none⟩), .pointer (some ⟨Bp, 0, none⟩), .pointer (some ⟨Bx, 0, none⟩), .pointer (some ⟨By, 0, none⟩)] w fun e w' => e = .panicked (refusal 1) ∧ Fr [] w w' ∧ True := by
  have cq := hq.cell
  have cp := hp.cell
  have cx := hx.cell
  go_enter Try.func68, Try.ntmps68
  go_wp2_with (go_at_call 58; refine (over_yes _ _ h).mono ?_; rintro e w' ⟨rfl, rfl⟩)
  refine (elements_yes q _ _ p _ h2 hA hl).mono ?_
  rintro e w' ⟨rfl, rfl⟩
  go_wp2_with fail
  refine (elements_no q _ _ [x] _ h3 (ints_one _ _) (by simp)).mono ?_
  rintro e w' ⟨rfl, rfl⟩
  go_wp2
  exact ⟨rfl, rfl, (Fr.refl _ _).alloc _, trivial⟩

theorem val1_long (hq : One w Bq (.int .i64 q) 3) (hp : One w Bp (.slice A p.length c) 22) (hx : One w Bx (.int .i64 x) 3) (hA : Ints w A p) (hl : p.length ≤ 1000000) (h : primeB q = true) (h2 : elemB q p = true) (h3 : elemB q [x] = true)
    (h4 : decide ((p.length : Int) ≤ q) = false) :
    Calls Try.prog 68 #[.pointer (some ⟨Bq, 0, none⟩), .pointer (some ⟨Bp, 0, none⟩), .pointer (some ⟨Bx, 0, none⟩), .pointer (some ⟨By, 0, none⟩)] w fun e w' => e = .panicked (refusal 1) ∧ Fr [] w w' ∧ True := by
  have cq := hq.cell
  have cp := hp.cell
  have cx := hx.cell
  have lq := hq.lt
  have lp := hp.lt
  have lx := hx.lt
  go_enter Try.func68, Try.ntmps68
  go_wp2_with (go_at_call 58; refine (over_yes _ _ h).mono ?_; rintro e w' ⟨rfl, rfl⟩)
  refine (elements_yes q _ _ p _ h2 hA hl).mono ?_
  rintro e w' ⟨rfl, rfl⟩
  go_wp2_with fail
  refine (elements_yes q _ _ [x] _ h3 (ints_one _ _) (by simp)).mono ?_
  rintro e w' ⟨rfl, rfl⟩
  go_wp2_with (go_at_call 60; refine (must_no _).mono ?_; rintro e w' ⟨rfl, rfl⟩)
  exact ⟨rfl, rfl, (Fr.refl _ _).alloc _, trivial⟩

theorem val1_yes (hq : One w Bq (.int .i64 q) 3) (hp : One w Bp (.slice A p.length c) 22) (hx : One w Bx (.int .i64 x) 3) (hy : One w By (.int .i64 0) 3) (hA : Ints w A p) (hl : p.length ≤ 1000000) (h : primeB q = true) (h2 : elemB q p = true) (h3 : elemB q [x] = true)
    (h4 : decide ((p.length : Int) ≤ q) = true) :
    Calls Try.prog 68 #[.pointer (some ⟨Bq, 0, none⟩), .pointer (some ⟨Bp, 0, none⟩), .pointer (some ⟨Bx, 0, none⟩), .pointer (some ⟨By, 0, none⟩)] w fun e w' => e = .returned (.tuple #[]) ∧ Fr [By] w w' ∧ One w' By (.int .i64 (hv q x p)) 3 := by
  have cq := hq.cell
  have cp := hp.cell
  have cx := hx.cell
  have lq := hq.lt
  have lp := hp.lt
  have lx := hx.lt
  have cy := hy.cell
  have fy := hy.free
  have ly := hy.lt
  have hpr := prime_bd h
  obtain ⟨hp1, hp2⟩ := hpr
  have he := elem_get h3 (k := 0) (by simp)
  simp only [List.getElem_cons_zero] at he
  obtain ⟨he1, he2⟩ := he
  go_enter Try.func68, Try.ntmps68
  go_wp2_with (go_at_call 58; refine (over_yes _ _ h).mono ?_; rintro e w' ⟨rfl, rfl⟩)
  refine (elements_yes q _ _ p _ h2 hA hl).mono ?_
  rintro e w' ⟨rfl, rfl⟩
  go_wp2_with fail
  refine (elements_yes q _ _ [x] _ h3 (ints_one _ _) (by simp)).mono ?_
  rintro e w' ⟨rfl, rfl⟩
  go_wp2_with (first | (go_at_call 60; refine (must_yes _).mono ?_; rintro e w' ⟨rfl, rfl⟩) | (go_at_call 62; refine (value_any q x A c p _ ⟨by omega, by omega⟩ ⟨by omega, by omega⟩ h2 (hA.alloc _) hl).mono ?_; rintro e w' ⟨rfl, nd, rfl⟩))
  go_end0
  exact ⟨rfl, (((Fr.refl _ _).alloc _).drewN _).setOne _, ((hy.alloc _).drewN _).set _⟩
end

/-- seal.Value. -/
def valueR (q : Int) (p : List Int) (x : Int) : Int × Int :=
  if primeB q && elemB q p && elemB q [x] && decide ((p.length : Int) ≤ q) then (hv q x p, 0) else (0, 1)

theorem value_top (q x : Int) (A : Option Addr) (c : Nat) (p : List Int) (w : World) (v n : Int)
    (hg : ∀ w3 : World, One w3 w.heap.size (.int .i64 q) 3 → One w3 (w.heap.size + 1) (.slice A p.length c) 22 → One w3 (w.heap.size + 2) (.int .i64 x) 3 → One w3 (w.heap.size + 3) (.int .i64 0) 3 → w3.heap.size = w.heap.size + 4 → Below w.heap.size w w3 →
      Calls Try.prog 56 #[.func (.func 68) #[] #[.pointer (some ⟨w.heap.size, 0, none⟩), .pointer (some ⟨w.heap.size + 1, 0, none⟩), .pointer (some ⟨w.heap.size + 2, 0, none⟩), .pointer (some ⟨w.heap.size + 3, 0, none⟩)]] w3
        fun e w' => e = .returned (.int .i64 n) ∧ Fr [w.heap.size + 3] w3 w' ∧ One w' (w.heap.size + 3) (.int .i64 v) 3) :
    Calls Try.prog 31 #[.int .i64 q, .slice A p.length c, .int .i64 x] w fun e w' => e = .returned (.tuple #[.int .i64 v, .int .i64 n]) ∧ Below w.heap.size w w' := by
  have hmf : ∀ (fn : Fn) (first cap : Array Value) (w : World), (Instr.makeFunc fn first cap).run Try.prog w = .ok (.func fn first cap) w := fun _ _ _ _ => rfl
  have HG := Lib.hid hg
  clear hg
  go_enter Try.func31, Try.ntmps31
  go_wp2_with fail
  refine (HG.out _ ?_ ?_ ?_ ?_ ?_ ?_).mono ?_
  · exact (((One.new w _ 3).alloc _).alloc _).alloc _
  · exact ((One.newAt (w.alloc _) _ 22 _ (by simp)).alloc _).alloc _
  · exact (One.newAt ((w.alloc _).alloc _) _ 3 _ (by simp)).alloc _
  · exact One.newAt (((w.alloc _).alloc _).alloc _) _ 3 _ (by simp)
  · simp
  · exact (((((Fr.refl [] w).alloc _).alloc _).alloc _).alloc _).below
  · rintro e w' ⟨rfl, hf, ho⟩
    have co := ho.cell
    have fo := ho.free
    have lo := ho.lt
    have hfb : Below w.heap.size w w' := (((((Fr.refl [] w).alloc _).alloc _).alloc _).alloc _).below.trans (hf.belowOf (by simp; omega) (by simp))
    go_wp2
    refine bodyPost_ret (v := .tuple #[.int .i64 v, .int .i64 n]) (by simp [results, Try.results31, go_sem, co]) rfl ⟨rfl, ?_⟩
    exact hfb.setCell (by simp; omega) _

theorem value_ret (q x : Int) (A : Option Addr) (c : Nat) (p : List Int) (w : World) (hA : Ints w A p) (hl : p.length ≤ 1000000) :
    Calls Try.prog 31 #[.int .i64 q, .slice A p.length c, .int .i64 x] w fun e w' => e = .returned (.tuple #[.int .i64 (valueR q p x).1, .int .i64 (valueR q p x).2]) ∧ Below w.heap.size w w' := by
  refine value_top q x A c p w _ _ fun w3 h1 h2 h3 h4 hs hb => ?_
  have hA3 := hA.below hb
  unfold valueR
  by_cases hp : primeB q = true
  · by_cases he : elemB q p = true
    · by_cases hx : elemB q [x] = true
      · by_cases hle : decide ((p.length : Int) ≤ q) = true
        · simp only [hp, he, hx, hle, Bool.and_self, if_true]
          refine (guarded_okF 68 _ w3 [w.heap.size + 3] _ enter68 (val1_yes q x A c p _ _ _ _ _ (h1.alloc _) (h2.alloc _) (h3.alloc _) (h4.alloc _) (hA3.alloc _) hl hp he hx hle) (by simp; omega)).mono ?_
          rintro e w' ⟨h, hf, w1, ho, hf1⟩
          exact ⟨h, hf, ho.fr hf1 (by simp; omega)⟩
        · simp only [hp, he, hx, hle, Bool.and_true, Bool.and_false, Bool.false_eq_true, if_false]
          refine (guarded_panicF 68 _ 1 w3 [] (fun _ => True) enter68 (val1_long q x A c p _ _ _ _ _ (h1.alloc _) (h2.alloc _) (h3.alloc _) (hA3.alloc _) hl hp he hx (by simpa using hle)) (by simp)).mono ?_
          rintro e w' ⟨h, hf, _⟩
          exact ⟨h, hf.mono (by simp), h4.fr hf (by simp)⟩
      · simp only [hp, he, hx, Bool.and_true, Bool.and_false, Bool.false_and, Bool.false_eq_true, if_false]
        refine (guarded_panicF 68 _ 1 w3 [] (fun _ => True) enter68 (val1_outx q x A c p _ _ _ _ _ (h1.alloc _) (h2.alloc _) (h3.alloc _) (hA3.alloc _) hl hp he (by simpa using hx)) (by simp)).mono ?_
        rintro e w' ⟨h, hf, _⟩
        exact ⟨h, hf.mono (by simp), h4.fr hf (by simp)⟩
    · simp only [hp, he, Bool.and_true, Bool.and_false, Bool.false_and, Bool.false_eq_true, if_false]
      refine (guarded_panicF 68 _ 1 w3 [] (fun _ => True) enter68 (val1_out q A c p _ _ _ _ _ (h1.alloc _) (h2.alloc _) (hA3.alloc _) hl hp (by simpa using he)) (by simp)).mono ?_
      rintro e w' ⟨h, hf, _⟩
      exact ⟨h, hf.mono (by simp), h4.fr hf (by simp)⟩
  · simp only [hp, Bool.false_and, Bool.false_eq_true, if_false]
    refine (guarded_panicF 68 _ 1 w3 [] (fun _ => True) enter68 (val1_no q _ _ _ _ _ (h1.alloc _) (by simpa using hp)) (by simp)).mono ?_
    rintro e w' ⟨h, hf, _⟩
    exact ⟨h, hf.mono (by simp), h4.fr hf (by simp)⟩
end Go.Proofs.Ytneliejncfncdaa
