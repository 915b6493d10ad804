import Derived.Test.YtneliejncfncdaaR
namespace Go.Proofs.Ytneliejncfncdaa
open Go.RowKit

/-- seal.Read: the message, how many are wrong, the error. -/
def readR (q k : Int) (word : List Int) : List Int × Int × Int :=
  if primeB q && elemB q word && (decide (1 ≤ k) && decide (k ≤ (word.length : Int)) && decide ((word.length : Int) ≤ q)) then
    (if mendOk q word k.toNat ((word.length - k.toNat) / 2) && decide (wrongs q (mendP q word k.toNat ((word.length - k.toNat) / 2)) word word.length ≤ (word.length - k.toNat) / 2)
      then (mendP q word k.toNat ((word.length - k.toNat) / 2), (wrongs q (mendP q word k.toNat ((word.length - k.toNat) / 2)) word word.length : Nat), 0) else ([], 0, 6))
  else ([], 0, 1)

/-- A result of three: a list, a number, an error. -/
def Ret3 (xs : List Int) (m n : Int) (w : World) (e : Ending) (w' : World) : Prop :=
  ∃ v, e = .returned (.tuple #[v, .int .i64 m, .int .i64 n]) ∧ SlI w' v xs ∧ (xs = [] → v = .slice none 0 0) ∧ Below w.heap.size w w'

set_option maxRecDepth 100000 in
set_option maxHeartbeats 1600000 in
theorem read_top (q k : Int) (A : Option Addr) (c : Nat) (p : List Int) (w : World) (xs : List Int) (m n : Int)
    (hg : ∀ w3 : World, One w3 w.heap.size (.int .i64 q) 3 → One w3 (w.heap.size + 1) (.int .i64 k) 3 → One w3 (w.heap.size + 2) (.slice A p.length c) 22 → One w3 (w.heap.size + 3) (.slice none 0 0) 22 → One w3 (w.heap.size + 4) (.int .i64 0) 3 → w3.heap.size = w.heap.size + 5 → Below w.heap.size w w3 →
      Calls Try.prog 56 #[.func (.func 57) #[] #[.pointer (some ⟨w.heap.size, 0, none⟩), .pointer (some ⟨w.heap.size + 2, 0, none⟩), .pointer (some ⟨w.heap.size + 1, 0, none⟩), .pointer (some ⟨w.heap.size + 3, 0, none⟩), .pointer (some ⟨w.heap.size + 4, 0, none⟩)]] w3
        fun e w' => e = .returned (.int .i64 n) ∧ Fr [w.heap.size + 3, w.heap.size + 4] w3 w' ∧ ∃ v, One w' (w.heap.size + 3) v 22 ∧ OwnI w' (w.heap.size + 5) v xs.length xs ∧ (xs = [] → v = .slice none 0 0) ∧ One w' (w.heap.size + 4) (.int .i64 m) 3) :
    Calls Try.prog 18 #[.int .i64 q, .int .i64 k, .slice A p.length c] w (Ret3 xs m n w) := by
  have hmf : ∀ (fn : Fn) (first cap : Array Value) (w : World), (Instr.makeFunc fn first cap).run Try.prog w = .ok (.func fn first cap) w := fun _ _ _ _ => rfl
  have HG := Lib.hid hg
  clear hg
  go_enter Try.func18, Try.ntmps18
  go_wp2_with fail
  refine (HG.out _ ?_ ?_ ?_ ?_ ?_ ?_ ?_).mono ?_
  · exact ((((One.new w _ 3).alloc _).alloc _).alloc _).alloc _
  · exact (((One.newAt (w.alloc _) _ 3 _ (by simp)).alloc _).alloc _).alloc _
  · exact ((One.newAt ((w.alloc _).alloc _) _ 22 _ (by simp)).alloc _).alloc _
  · exact (One.newAt (((w.alloc _).alloc _).alloc _) _ 22 _ (by simp)).alloc _
  · exact One.newAt ((((w.alloc _).alloc _).alloc _).alloc _) _ 3 _ (by simp)
  · simp
  · exact ((((((Fr.refl [] w).alloc _).alloc _).alloc _).alloc _).alloc _).below
  · rintro e w' ⟨rfl, hf, v, hov, hown, hnil, hom⟩
    have hsli := hown.sli
    obtain ⟨AA, cc, hvs, hs1, hs2, hs3, hs4⟩ := hsli
    subst hvs
    have cv := hov.cell
    have fv := hov.free
    have lv := hov.lt
    have cm := hom.cell
    have fm := hom.free
    have lm := hom.lt
    have hfb : Below w.heap.size w w' := ((((((Fr.refl [] w).alloc _).alloc _).alloc _).alloc _).alloc _).below.trans (hf.belowOf (by simp; omega) (by simp))
    go_wp2_with fail
    have hov1 := hov.set (.slice AA xs.length cc)
    have hom1 := hom.setOther ⟨w.heap.size + 3, 0, none⟩ (.slice AA xs.length cc) (by simp)
    refine Lex.wp_region_lex (fun w' => w'.cell? ⟨w.heap.size + 3, 0, none⟩ = some (.slice AA xs.length cc) ∧ w'.cell? ⟨w.heap.size + 4, 0, none⟩ = some (.int .i64 m)) (fun _ => true)
      [(0, true), (1, true), (2, true), (3, false), (4, false), (5, false)]
      (by kernel_rfl) (by kernel_rfl) (by kernel_rfl) (by kernel_rfl) ⟨cv, cm⟩ ?_
    repeat (refine Lex.lex_take (v := ?_) rfl rfl (by rfl) (fun _ hS => ?_) ?_; rotate_left 1; (focus (go_split_ands; go_simp; with_reducible rfl)); simp only [List.setIfInBounds_toArray, List.set_cons_zero, List.set_cons_succ])
    refine Lex.lex_do rfl ?_
    go_wp2_with fail
    refine Lex.lexQ_normal (fun _ => ⟨hov1.cell, hom1.cell⟩) ?_
    have cm1 := hom1.cell
    have fm1 := hom1.free
    have lm1 := hom1.lt
    refine Lex.lex_do rfl ?_
    go_wp2_with fail
    refine Lex.lexQ_normal (fun _ => ⟨(hov1.setOther ⟨w.heap.size + 4, 0, none⟩ (.int .i64 m) (by simp)).cell, (hom1.set (.int .i64 m)).cell⟩) ?_
    refine Lex.lex_do rfl ?_
    go_wp2_with fail
    refine Lex.lexQ_normal (fun _ => ⟨(hov1.setOther ⟨w.heap.size + 4, 0, none⟩ (.int .i64 m) (by simp)).cell, (hom1.set (.int .i64 m)).cell⟩) ?_
    refine Lex.lex_nil ?_
    have cv2 := (hov1.setOther ⟨w.heap.size + 4, 0, none⟩ (.int .i64 m) (by simp)).cell
    have cm2 := (hom1.set (.int .i64 m)).cell
    have hown2 : OwnI ((w'.setCell ⟨w.heap.size + 3, 0, none⟩ (.slice AA xs.length cc)).setCell ⟨w.heap.size + 4, 0, none⟩ (.int .i64 m)) (w.heap.size + 5) (.slice AA xs.length cc) xs.length xs := hown.keep fun b hb => by
      have := (hown.lt b hb).1
      rw [Below.heap_setCell _ _ _ _ (by simp; omega), Below.heap_setCell _ _ _ _ (by simp; omega)]
    have hfb2 := ((hfb.setCell (p := ⟨w.heap.size + 3, 0, none⟩) (by simp) (.slice AA xs.length cc)).setCell (p := ⟨w.heap.size + 4, 0, none⟩) (by simp) (.int .i64 m)).drew
    have hsl2 := hown2.sli
    clear hov1 hom1 cm1 fm1 lm1 cv cm fv fm lv lm hov hom hown hown2 hs4 hf HG
    go_wp2
    refine bodyPost_ret (v := .tuple #[.slice AA xs.length cc, .int .i64 m, .int .i64 n]) (by simp [results, Try.results18, go_sem, cv2, cm2]) rfl ⟨_, rfl, hsl2, hnil, hfb2⟩

theorem read_ret (q k : Int) (A : Option Addr) (c : Nat) (p : List Int) (w : World) (hA : Ints w A p) (hl : p.length ≤ 1000000) :
    Calls Try.prog 18 #[.int .i64 q, .int .i64 k, .slice A p.length c] w (Ret3 (readR q k p).1 (readR q k p).2.1 (readR q k p).2.2 w) := by
  refine read_top q k A c p w _ _ _ fun w3 h1 h2 h3 h4 h5 hs hb => ?_
  have hA3 := hA.below hb
  have bad : ∀ (w' : World) (e : Ending) (z : Int), e = .returned (.int .i64 z) ∧ Fr [] w3 w' ∧ (∃ w1 : World, True ∧ Fr [w3.heap.size] w1 w') →
      e = .returned (.int .i64 z) ∧ Fr [w.heap.size + 3, w.heap.size + 4] w3 w' ∧ ∃ v, One w' (w.heap.size + 3) v 22 ∧ OwnI w' (w.heap.size + 5) v ([] : List Int).length [] ∧ (([] : List Int) = [] → v = .slice none 0 0) ∧ One w' (w.heap.size + 4) (.int .i64 0) 3 := by
    rintro w' e z ⟨h, hf, _⟩
    exact ⟨h, hf.mono (by simp), _, h4.fr hf (by simp), OwnI.nil _ _, fun _ => rfl, h5.fr hf (by simp)⟩
  unfold readR
  by_cases hp : primeB q = true
  · by_cases he : elemB q p = true
    · by_cases hm : (decide (1 ≤ k) && decide (k ≤ (p.length : Int)) && decide ((p.length : Int) ≤ q)) = true
      · rw [hp, he, hm]
        simp only [Bool.and_self, if_true]
        simp only [Bool.and_eq_true, decide_eq_true_eq] at hm
        obtain ⟨⟨m1, m2⟩, m3⟩ := hm
        obtain ⟨kn, rfl⟩ : ∃ kn : Nat, k = kn := ⟨k.toNat, by omega⟩
        simp only [Int.toNat_natCast]
        have hrun := rd1_run q A c kn ((p.length - kn) / 2) p _ _ _ _ _ _ (h1.alloc (.cells #[.int .i64 0] 24)) (h3.alloc _) (h2.alloc _) ⟨_, h4.alloc _⟩ ⟨_, h5.alloc _⟩ (hA3.alloc _) hp he (by simp) (by omega) (by omega) m3 rfl
        unfold RdRet at hrun
        cases hx : mendOk q p kn ((p.length - kn) / 2) && decide (wrongs q (mendP q p kn ((p.length - kn) / 2)) p p.length ≤ (p.length - kn) / 2) with
        | true =>
          rw [hx] at hrun
          simp only [if_true] at hrun
          have hml := mendP_length q p kn ((p.length - kn) / 2)
          unfold RdOk at hrun
          generalize mendP q p kn ((p.length - kn) / 2) = xs at *
          refine (guarded_okF 57 _ w3 [w.heap.size + 3, w.heap.size + 4] _ enter57 hrun (by simp; omega)).mono ?_
          rintro e w' ⟨h, hf, w1, ⟨v, g1, g2, g3⟩, hf1⟩
          refine ⟨h, hf, v, g1.fr hf1 (by simp; omega), ?_, fun hh => ?_, g3.fr hf1 (by simp; omega)⟩
          · show OwnI w' (w.heap.size + 5) v xs.length xs
            rw [hml]
            refine (g2.fr hf1 fun b hb => ?_).mono (by simp; omega)
            have := (g2.lt b hb).1
            simp at this ⊢
            omega
          · subst hh; simp at hml; omega
        | false =>
          rw [hx] at hrun
          simp only [Bool.false_eq_true, if_false] at hrun
          refine (guarded_panicF 57 _ 6 w3 [] (fun _ => True) enter57 hrun (by simp)).mono ?_
          intro e w' h
          simpa using bad w' e 6 h
      · have hm' : (decide (1 ≤ k) && decide (k ≤ (p.length : Int)) && decide ((p.length : Int) ≤ q)) = false := Bool.not_eq_true _ ▸ hm
        rw [hp, he, hm']
        simp only [Bool.and_false, Bool.false_eq_true, if_false]
        refine (guarded_panicF 57 _ 1 w3 [] (fun _ => True) enter57 (rd1_must q A c p _ _ _ _ _ _ k (h1.alloc _) (h3.alloc _) (h2.alloc _) (hA3.alloc _) hl hp he hm') (by simp)).mono ?_
        intro e w' h
        simpa using bad w' e 1 h
    · rw [hp, (by simpa using he : elemB q p = false)]
      simp only [Bool.and_false, Bool.false_and, Bool.false_eq_true, if_false]
      refine (guarded_panicF 57 _ 1 w3 [] (fun _ => True) enter57 (rd1_out q A c p _ _ _ _ _ _ (h1.alloc _) (h3.alloc _) (hA3.alloc _) hl hp (by simpa using he)) (by simp)).mono ?_
      intro e w' h
      simpa using bad w' e 1 h
  · rw [(by simpa using hp : primeB q = false)]
    simp only [Bool.false_and, Bool.false_eq_true, if_false]
    refine (guarded_panicF 57 _ 1 w3 [] (fun _ => True) enter57 (rd1_no q _ _ _ _ _ _ (h1.alloc _) (by simpa using hp)) (by simp)).mono ?_
    intro e w' h
    simpa using bad w' e 1 h
end Go.Proofs.Ytneliejncfncdaa
