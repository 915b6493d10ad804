/- Texts Ea Eb in one. -/
import Derived.Test.YtneliejncfncdaaPkQ
namespace Go.Proofs.Ytneliejncfncdaa
open Go.RowKit

theorem enter69 : ∀ args w, (callFunc 69 args).run Try.prog w = .ok (.enter 69 args) w := fun _ _ => by kernel_rfl

/-- The values at the first places. -/
def vals (q : Int) (p : List Int) (k : Nat) : List Int := (List.range k).map fun (x : Nat) => hv q x p
theorem vals_length (q : Int) (p : List Int) (k : Nat) : (vals q p k).length = k := by simp [vals]
theorem vals_succ (q : Int) (p : List Int) (k : Nat) : vals q p (k + 1) = vals q p k ++ [hv q k p] := by simp [vals, List.range_succ]

theorem Fr.grownE {S : List Nat} {a b c : World} {row : Option Nat} (h : Fr S a b) (hg : b.grownBy c row) (hr : ∀ k, row = some k → a.heap.size ≤ k) : Fr S a c :=
  ⟨hg.os.trans h.os, hg.tape.trans h.tape, hg.output.trans h.output, Nat.le_trans h.size hg.size, fun k hk hn => (hg.block k (Nat.lt_of_lt_of_le hk h.size) (fun e => by have := hr k e.symm; omega)).trans (h.block k hk hn)⟩
theorem One.grown {w w' : World} {B : Nat} {v : Value} {t : TypeId} {row : Option Nat} (h : One w B v t) (hg : w.grownBy w' row) (hr : row ≠ some B) : One w' B v t := (hg.block B h.lt (fun e => hr e.symm)).trans h

section
variable (q : Int) (A : Option Addr) (c : Nat) (p : List Int) (w : World) (Bq Bp Bn Bo : Nat)

theorem en1_no (hq : One w Bq (.int .i64 q) 3) (h : primeB q = false) :
    Calls Try.prog 69 #[.pointer (some ⟨Bq, 0, none⟩), .pointer (some ⟨Bp, 0, none⟩), .pointer (some ⟨Bn, 0, none⟩), .pointer (some ⟨Bo, 0, none⟩)] w fun e w' => e = .panicked (refusal 1) ∧ Fr [] w w' ∧ True := by
  have cq := hq.cell
  go_enter Try.func69, Try.ntmps69
  go_wp2_with (go_at_call 58; refine (over_no _ _ h).mono ?_; rintro e w' ⟨rfl, rfl⟩)
  exact ⟨rfl, rfl, Fr.refl _ _, trivial⟩

theorem en1_out (hq : One w Bq (.int .i64 q) 3) (hp : One w Bp (.slice A p.length c) 22) (hA : Ints w A p) (hl : p.length ≤ 1000000) (h : primeB q = true) (h2 : elemB q p = false) :
    Calls Try.prog 69 #[.pointer (some ⟨Bq, 0, none⟩), .pointer (some ⟨Bp, 0, none⟩), .pointer (some ⟨Bn, 0, none⟩), .pointer (some ⟨Bo, 0, none⟩)] w fun e w' => e = .panicked (refusal 1) ∧ Fr [] w w' ∧ True := by
  have cq := hq.cell
  have cp := hp.cell
  go_enter Try.func69, Try.ntmps69
  go_wp2_with (first | (go_at_call 58; refine (over_yes _ _ h).mono ?_; rintro e w' ⟨rfl, rfl⟩) | (go_at_call 59; refine (elements_no q _ _ p _ h2 hA hl).mono ?_; rintro e w' ⟨rfl, rfl⟩))
  exact ⟨rfl, rfl, Fr.refl _ _, trivial⟩

set_option maxRecDepth 100000 in
theorem en1_must (n : Int) (hq : One w Bq (.int .i64 q) 3) (hp : One w Bp (.slice A p.length c) 22) (hk : One w Bn (.int .i64 n) 3) (hA : Ints w A p) (hl : p.length ≤ 1000000) (h : primeB q = true) (h2 : elemB q p = true)
    (h3 : (decide (1 ≤ (p.length : Int)) && decide ((p.length : Int) ≤ n) && decide (n ≤ q)) = false) :
    Calls Try.prog 69 #[.pointer (some ⟨Bq, 0, none⟩), .pointer (some ⟨Bp, 0, none⟩), .pointer (some ⟨Bn, 0, none⟩), .pointer (some ⟨Bo, 0, none⟩)] w fun e w' => e = .panicked (refusal 1) ∧ Fr [] w w' ∧ True := by
  have cq := hq.cell
  have cp := hp.cell
  have ck := hk.cell
  have lq := hq.lt
  have lp := hp.lt
  have lk := hk.lt
  have H3 := Lib.hid h3
  clear h3
  generalize hN : p.length = N at *
  have HN := Lib.hid hN
  clear hN
  by_cases e1 : 1 ≤ N
  · by_cases e2 : (N : Int) ≤ n
    · have e3 : ¬ n ≤ q := by
        intro e3
        have := H3.out
        rw [decide_eq_true (show (1 : Int) ≤ (N : Int) by omega), decide_eq_true e2, decide_eq_true e3] at this
        cases this
      have e4 : decide (n ≤ q) = false := decide_eq_false e3
      have c59 : ∀ W, Ints W A p → Calls Try.prog 59 #[.int .i64 q, .slice A N c] W fun e w' => e = .returned (.tuple #[]) ∧ w' = W := fun W hI => by
        have := elements_yes q A c p W h2 hI (by rw [HN.out]; exact hl)
        rwa [HN.out] at this
      clear H3
      go_enter Try.func69, Try.ntmps69
      go_wp2_with (first | (go_at_call 58; refine (over_yes _ _ h).mono ?_; rintro e w' ⟨rfl, rfl⟩) | (go_at_call 59; refine (c59 _ hA).mono ?_; rintro e w' ⟨rfl, rfl⟩) | (go_at_call 60; refine (must_no _).mono ?_; rintro e w' ⟨rfl, rfl⟩))
      exact ⟨rfl, rfl, Fr.refl _ _, trivial⟩
    · have c59 : ∀ W, Ints W A p → Calls Try.prog 59 #[.int .i64 q, .slice A N c] W fun e w' => e = .returned (.tuple #[]) ∧ w' = W := fun W hI => by
        have := elements_yes q A c p W h2 hI (by rw [HN.out]; exact hl)
        rwa [HN.out] at this
      clear H3
      go_enter Try.func69, Try.ntmps69
      go_wp2_with (first | (go_at_call 58; refine (over_yes _ _ h).mono ?_; rintro e w' ⟨rfl, rfl⟩) | (go_at_call 59; refine (c59 _ hA).mono ?_; rintro e w' ⟨rfl, rfl⟩) | (go_at_call 60; refine (must_no _).mono ?_; rintro e w' ⟨rfl, rfl⟩))
      exact ⟨rfl, rfl, Fr.refl _ _, trivial⟩
  · have e0 : N = 0 := by omega
    subst e0
    have c59 : ∀ W, Ints W A p → Calls Try.prog 59 #[.int .i64 q, .slice A 0 c] W fun e w' => e = .returned (.tuple #[]) ∧ w' = W := fun W hI => by
      have := elements_yes q A c p W h2 hI (by rw [HN.out]; exact hl)
      rwa [HN.out] at this
    clear H3
    go_enter Try.func69, Try.ntmps69
    go_wp2_with (first | (go_at_call 58; refine (over_yes _ _ h).mono ?_; rintro e w' ⟨rfl, rfl⟩) | (go_at_call 59; refine (c59 _ hA).mono ?_; rintro e w' ⟨rfl, rfl⟩) | (go_at_call 60; refine (must_no _).mono ?_; rintro e w' ⟨rfl, rfl⟩))
    exact ⟨rfl, rfl, Fr.refl _ _, trivial⟩

def EnOk (n : Nat) (e : Ending) (w' : World) : Prop := e = .returned (.tuple #[]) ∧ Fr [Bo] w w' ∧ ∃ v, One w' Bo v 22 ∧ OwnI w' w.heap.size v n (vals q p n)

set_option maxRecDepth 100000 in
set_option maxHeartbeats 1600000 in
theorem en1_run (n : Nat) (hq : One w Bq (.int .i64 q) 3) (hp : One w Bp (.slice A p.length c) 22) (hk : One w Bn (.int .i64 n) 3) (ho : One w Bo (.slice none 0 0) 22) (hA : Ints w A p) (h : primeB q = true) (h2 : elemB q p = true)
    (h3 : 1 ≤ p.length) (h4 : p.length ≤ n) (h5 : (n : Int) ≤ q) (hpo : Bp ≠ Bo) (hAo : ∀ a, A = some a → a.block ≠ Bo) :
    Calls Try.prog 69 #[.pointer (some ⟨Bq, 0, none⟩), .pointer (some ⟨Bp, 0, none⟩), .pointer (some ⟨Bn, 0, none⟩), .pointer (some ⟨Bo, 0, none⟩)] w (EnOk q p w Bo n) := by
  have cq := hq.cell
  have cp := hp.cell
  have ck := hk.cell
  have lq := hq.lt
  have lp := hp.lt
  have lk := hk.lt
  have lo := ho.lt
  have hpr := prime_bd h
  obtain ⟨hp1, hp2⟩ := hpr
  obtain ⟨ws, rfl⟩ : ∃ ws, ws = w := ⟨_, rfl⟩
  have c58 : ∀ W, Calls Try.prog 58 #[.int .i64 q] W fun e w' => e = .returned (.int .i64 q) ∧ W = w' := fun W => (over_yes _ _ h).mono fun e w' h => ⟨h.1, h.2.symm⟩
  have c59 : Calls Try.prog 59 #[.int .i64 q, .slice A p.length c] ws fun e w' => e = .returned (.tuple #[]) ∧ ws = w' := (elements_yes q _ _ p _ h2 hA (by omega)).mono fun e w' h => ⟨h.1, h.2.symm⟩
  have c60 : Calls Try.prog 60 #[.bool true] ws fun e w' => e = .returned (.tuple #[]) ∧ ws = w' := (must_yes _).mono fun e w' h => ⟨h.1, h.2.symm⟩
  go_enter Try.func69, Try.ntmps69
  go_wp2_with (first | (go_at_call 58; refine (c58 _).mono ?_; rintro e w' ⟨rfl, rfl⟩) | (go_at_call 59; refine c59.mono ?_; rintro e w' ⟨rfl, rfl⟩) | (go_at_call 60; refine c60.mono ?_; rintro e w' ⟨rfl, rfl⟩))
  clear c58 c59 c60 cq ck lq lk
  go_loopw [27] (fun s wr => ∃ k : Nat, k ≤ n ∧ s = .int .i64 k ∧ Fr [Bo] ws wr ∧ ∃ d, One wr Bo d 22 ∧ OwnI wr ws.heap.size d k (vals q p k)) (fun s _ => n - (intOf s).toNat)
  case atStart => exact ⟨0, by omega, rfl, Fr.refl _ _, _, ho, OwnI.nil _ _⟩
  case round =>
    obtain ⟨k, hkn, rfl, hF, d, hO, hV⟩ := hrel
    by_cases hlt : k < n
    · have hIr : Ints wr A p := At.fr hA hF (fun a ha => by simp [hAo a ha])
      have hP := hp.fr hF (by simp [hpo])
      have cP := hP.cell
      have lP := hP.lt
      have hsl := hV.sli
      obtain ⟨AA, cc, hd, _, _, _, _⟩ := hsl
      rw [vals_length] at hd
      have hVl := hV.lt
      subst hd
      have cO := hO.cell
      have fO := hO.free
      have lO := hO.lt
      have hFs := hF.size
      have hvs := vals_succ q p k
      have HVS := Lib.hid hvs
      clear hvs
      go_wp2_with fail
      refine Lex.wp_region_lex (fun w' => w'.cell? ⟨Bo, 0, none⟩ = some (.slice AA k cc) ∧ w'.cell? ⟨Bp, 0, none⟩ = some (.slice A p.length c)) (fun j => j != 7)
        [(0, true), (1, true), (2, true), (3, true), (4, false), (5, false), (6, false), (7, false)]
        (by kernel_rfl) (by kernel_rfl) (by kernel_rfl) (by kernel_rfl) ⟨cO, cP⟩ ?_
      repeat (refine Lex.lex_take (v := ?_) rfl rfl (by rfl) (fun _ hS => ?_) ?_; rotate_left 1; (focus (go_split_ands; go_simp; with_reducible rfl)); simp only [List.setIfInBounds_toArray, List.set_cons_zero, List.set_cons_succ])
      refine Lex.lex_do rfl ?_
      go_wp2_with (go_at_call 62; refine (value_any q k A c p _ ⟨hp1, hp2⟩ ⟨by omega, by omega⟩ h2 hIr.drew (by omega)).mono ?_; rintro e w' ⟨rfl, nd, rfl⟩)
      refine Lex.lexQ_normal (fun _ => ⟨cO, cP⟩) ?_
      refine Lex.lex_do rfl ?_
      go_wp2_with fail
      have hO2 := (hO.drewN (1 + nd)).alloc (.cells #[.int .i64 (hv q k p)] 3)
      have hP2 := (hP.drewN (1 + nd)).alloc (.cells #[.int .i64 (hv q k p)] 3)
      refine Lex.lexQ_normal (fun _ => ⟨hO2.cell, hP2.cell⟩) ?_
      refine Lex.lex_do rfl ?_
      refine wpList_int _ rfl _ _ rfl ws.heap.size (.slice AA k cc) k (vals q p k) rfl ((hV.drewN (1 + nd)).alloc _) wr.heap.size (hv q k p) rfl (heap_alloc_new (wr.drewN (1 + nd)) _) (by omega) (by simp; omega) (wr.heap.size + 1) (by simp) ?_
      intro g cap w3 hV3 hgr hat hlt3
      have hO3 := hO2.grown hgr (by intro e; have := (hVl Bo e).1; omega)
      have hP3 := hP2.grown hgr (by intro e; have := (hVl Bp e).1; omega)
      have hF3 := ((hF.drewN (1 + nd)).alloc (.cells #[.int .i64 (hv q k p)] 3)).grownE hgr (fun b hb => (hVl b hb).1)
      have hgB : ws.heap.size ≤ g := by
        rcases hat with h | h
        · exact (hVl g h).1
        · omega
      have lO3 := hO3.lt
      have cO3 := hO3.cell
      have fO3 := hO3.free
      clear hgr
      go_wp2_with fail
      refine Lex.lexQ_normal (fun _ => ⟨cO3, hP3.cell⟩) ?_
      refine Lex.lex_do rfl ?_
      go_wp2_with fail
      refine Lex.lexQ_normal (fun h => absurd h (by decide)) ?_
      refine Lex.lex_nil ?_
      have hO4 := hO3.set (.slice (some ⟨g, 0, none⟩) (k + 1) cap)
      have hF4 := hF3.setOne (.slice (some ⟨g, 0, none⟩) (k + 1) cap)
      have hV4 : OwnI (w3.setCell ⟨Bo, 0, none⟩ (.slice (some ⟨g, 0, none⟩) (k + 1) cap)) ws.heap.size (.slice (some ⟨g, 0, none⟩) (k + 1) cap) (k + 1) (vals q p k ++ [hv q k p]) := hV3.keep fun b hb => by
        simp only [Value.ownBlock, Option.some.injEq] at hb
        subst hb
        exact Below.heap_setCell _ _ _ _ (by simp; omega)
      rw [← HVS.out] at hV4
      clear hO hV hF hO2 hP2 hO3 hP3 hF3 hV3 cO cP fO lO cO3 fO3 lO3 hP lP
      go_wp2
      go_roundw
      case rel => exact ⟨k + 1, by omega, by go_num, hF4, _, hO4, hV4⟩
      case measure => simp [intOf]; omega
    · obtain rfl : k = n := by omega
      go_wp2
      go_end0
      exact ⟨rfl, hF, d, hO, hV⟩
end

/-- The code's Engrave. -/
def engraveR (q n : Int) (p : List Int) : List Int × Int :=
  if primeB q && elemB q p && (decide (1 ≤ (p.length : Int)) && decide ((p.length : Int) ≤ n) && decide (n ≤ q)) then (vals q p n.toNat, 0) else ([], 1)

theorem engrave_top (q n : Int) (A : Option Addr) (c : Nat) (p : List Int) (w : World) (xs : List Int) (m : Int)
    (hg : ∀ w3 : World, One w3 w.heap.size (.int .i64 q) 3 → One w3 (w.heap.size + 1) (.int .i64 n) 3 → One w3 (w.heap.size + 2) (.slice A p.length c) 22 → One w3 (w.heap.size + 3) (.slice none 0 0) 22 → w3.heap.size = w.heap.size + 4 → Below w.heap.size w w3 →
      Calls Try.prog 56 #[.func (.func 69) #[] #[.pointer (some ⟨w.heap.size, 0, none⟩), .pointer (some ⟨w.heap.size + 2, 0, none⟩), .pointer (some ⟨w.heap.size + 1, 0, none⟩), .pointer (some ⟨w.heap.size + 3, 0, none⟩)]] w3
        fun e w' => e = .returned (.int .i64 m) ∧ Fr [w.heap.size + 3] w3 w' ∧ ∃ v, One w' (w.heap.size + 3) v 22 ∧ OwnI w' (w.heap.size + 4) v xs.length xs) :
    Calls Try.prog 37 #[.int .i64 q, .int .i64 n, .slice A p.length c] w (Ret2 xs m w) := by
  have hmf : ∀ (fn : Fn) (first cap : Array Value) (w : World), (Instr.makeFunc fn first cap).run Try.prog w = .ok (.func fn first cap) w := fun _ _ _ _ => rfl
  have HG := Lib.hid hg
  clear hg
  go_enter Try.func37, Try.ntmps37
  go_wp2_with fail
  refine (HG.out _ ?_ ?_ ?_ ?_ ?_ ?_).mono ?_
  · exact (((One.new w _ 3).alloc _).alloc _).alloc _
  · exact ((One.newAt (w.alloc _) _ 3 _ (by simp)).alloc _).alloc _
  · exact (One.newAt ((w.alloc _).alloc _) _ 22 _ (by simp)).alloc _
  · exact One.newAt (((w.alloc _).alloc _).alloc _) _ 22 _ (by simp)
  · simp
  · exact (((((Fr.refl [] w).alloc _).alloc _).alloc _).alloc _).below
  · rintro e w' ⟨rfl, hf, v, hov, hown⟩
    have hsli := hown.sli
    obtain ⟨AA, cc, hvs, hs1, hs2, hs3, hs4⟩ := hsli
    subst hvs
    have cv := hov.cell
    have fv := hov.free
    have lv := hov.lt
    have hfb : Below w.heap.size w w' := (((((Fr.refl [] w).alloc _).alloc _).alloc _).alloc _).below.trans (hf.belowOf (by simp; omega) (by simp))
    have hov2 := (hov.set (.slice AA xs.length cc)).cell
    have hown2 : OwnI (w'.setCell ⟨w.heap.size + 3, 0, none⟩ (.slice AA xs.length cc)) (w.heap.size + 4) (.slice AA xs.length cc) xs.length xs := hown.keep fun b hb => by
      have := (hown.lt b hb).1
      rw [Below.heap_setCell _ _ _ _ (by simp; omega)]
    have hsl2 := hown2.sli
    have hfb2 := hfb.setCell (p := ⟨w.heap.size + 3, 0, none⟩) (by simp) (.slice AA xs.length cc)
    clear HG hown hown2 hs4 hf hov
    go_wp2
    refine bodyPost_ret (v := .tuple #[.slice AA xs.length cc, .int .i64 m]) (by simp [results, Try.results37, go_sem, hov2]) rfl ⟨_, rfl, hsl2, hfb2⟩

theorem engrave_ret (q n : Int) (A : Option Addr) (c : Nat) (p : List Int) (w : World) (hA : Ints w A p) (hl : p.length ≤ 1000000) :
    Calls Try.prog 37 #[.int .i64 q, .int .i64 n, .slice A p.length c] w (Ret2 (engraveR q n p).1 (engraveR q n p).2 w) := by
  by_cases hAB : ∀ a, A = some a → p ≠ [] → a.block < w.heap.size
  · refine engrave_top q n A c p w _ _ fun w3 h1 h2 h3 h4 hs hb => ?_
    have hA3 := hA.below hb
    have bad : ∀ (w' : World) (e : Ending) (z : Int), e = .returned (.int .i64 z) ∧ Fr [] w3 w' ∧ (∃ w1 : World, True ∧ Fr [w3.heap.size] w1 w') →
        e = .returned (.int .i64 z) ∧ Fr [w.heap.size + 3] w3 w' ∧ ∃ v, One w' (w.heap.size + 3) v 22 ∧ OwnI w' (w.heap.size + 4) v ([] : List Int).length [] := by
      rintro w' e z ⟨h, hf, _⟩
      exact ⟨h, hf.mono (by simp), _, h4.fr hf (by simp), OwnI.nil _ _⟩
    unfold engraveR
    by_cases hp : primeB q = true
    · by_cases he : elemB q p = true
      · by_cases hm : (decide (1 ≤ (p.length : Int)) && decide ((p.length : Int) ≤ n) && decide (n ≤ q)) = true
        · rw [hp, he, hm]
          simp only [Bool.and_self, if_true]
          simp only [Bool.and_eq_true, decide_eq_true_eq] at hm
          obtain ⟨⟨m1, m2⟩, m3⟩ := hm
          obtain ⟨kn, rfl⟩ : ∃ kn : Nat, n = kn := ⟨n.toNat, by omega⟩
          simp only [Int.toNat_natCast]
          have hne : p ≠ [] := by intro e; subst e; simp at m1
          have hrun := en1_run q A c p _ _ _ _ _ kn (h1.alloc (.cells #[.int .i64 0] 24)) (h3.alloc _) (h2.alloc _) (h4.alloc _) (hA3.alloc _) hp he (by omega) (by omega) m3 (by omega) (fun a ha => by have := hAB a ha hne; omega)
          unfold EnOk at hrun
          refine (guarded_okF 69 _ w3 [w.heap.size + 3] _ enter69 hrun (by simp; omega)).mono ?_
          rintro e w' ⟨h, hf, w1, ⟨v, g1, g2⟩, hf1⟩
          refine ⟨h, hf, v, g1.fr hf1 (by simp; omega), ?_⟩
          rw [vals_length]
          refine (g2.fr hf1 fun b hb => ?_).mono (by simp; omega)
          have := (g2.lt b hb).1
          simp at this ⊢
          omega
        · have hm' : (decide (1 ≤ (p.length : Int)) && decide ((p.length : Int) ≤ n) && decide (n ≤ q)) = false := Bool.not_eq_true _ ▸ hm
          rw [hp, he, hm']
          simp only [Bool.and_false, Bool.false_eq_true, if_false]
          refine (guarded_panicF 69 _ 1 w3 [] (fun _ => True) enter69 (en1_must q A c p _ _ _ _ _ n (h1.alloc _) (h3.alloc _) (h2.alloc _) (hA3.alloc _) hl hp he hm') (by simp)).mono ?_
          intro e w' h
          simpa using bad w' e 1 h
      · rw [hp, (by simpa using he : elemB q p = false)]
        simp only [Bool.and_false, Bool.false_and, Bool.false_eq_true, if_false]
        refine (guarded_panicF 69 _ 1 w3 [] (fun _ => True) enter69 (en1_out q A c p _ _ _ _ _ (h1.alloc _) (h3.alloc _) (hA3.alloc _) hl hp (by simpa using he)) (by simp)).mono ?_
        intro e w' h
        simpa using bad w' e 1 h
    · rw [(by simpa using hp : primeB q = false)]
      simp only [Bool.false_and, Bool.false_eq_true, if_false]
      refine (guarded_panicF 69 _ 1 w3 [] (fun _ => True) enter69 (en1_no q _ _ _ _ _ (h1.alloc _) (by simpa using hp)) (by simp)).mono ?_
      intro e w' h
      simpa using bad w' e 1 h
  · exfalso
    apply hAB
    intro a ha hne
    rcases hA with h | ⟨b, off, h1, h2, _⟩
    · exact absurd (by simpa using h) hne
    · rw [ha] at h1; cases h1; exact h2
end Go.Proofs.Ytneliejncfncdaa

namespace Go.Proofs.Ytneliejncfncdaa
open Go.RowKit

set_option maxHeartbeats 800000 in
theorem refEngrave_any (q : Int) (n m : Nat) (A : Option Addr) (c : Nat) (l : List Int) (w : World) (hq : 2 ≤ q ∧ q ≤ 31) (hl : elemB q l = true) (hA : Ints w A l) (hm : l.length = m) (hb : m ≤ 1000) (hn : n ≤ 1000) :
    Calls Try.prog 38 #[.int .i64 q, .int .i64 n, .slice A m c] w (RetInts (vals q l n) w) := by
  have hown0 : ∀ W : World, W = w.alloc (.cells #[] 3) → OwnI W w.heap.size (.slice (some ⟨w.heap.size, 0, none⟩) 0 0) 0 [] := fun W hW => by
    subst hW
    exact World.ownsRow_lit w #[] 0 (Nat.le_refl _) (by simp [maxLen]) rfl
  have h0 := hown0 _ rfl
  have hb0 : Below w.heap.size w (w.alloc (.cells #[] 3)) := (Below.refl _ _).alloc (Nat.le_refl _) _
  clear hown0
  go_enter Try.func38, Try.ntmps38
  go_wp2_with fail
  go_loopw [7, 8] (fun d i wr => ∃ k : Nat, k ≤ n ∧ i = .int .i64 k ∧ OwnI wr w.heap.size d k (vals q l k) ∧ Below w.heap.size w wr) (fun _ i _ => n - (intOf i).toNat)
  case atStart => exact ⟨0, by omega, rfl, h0, hb0⟩
  case round =>
    clear h0 hb0
    obtain ⟨k, hk, rfl, hV, hB⟩ := hrel
    have hsz := hB.size
    by_cases hlt : k < n
    · have hI := hA.below hB
      have hvs := vals_succ q l k
      have HVS := Lib.hid hvs
      clear hvs
      have cv : ∀ W, Ints W A l → Calls Try.prog 34 #[.int .i64 q, .slice A m c, .int .i64 k] W fun e w' => e = .returned (.int .i64 (hv q k l)) ∧ W = w' := fun W h => (refValue_any q k A c m l W hq ⟨by omega, by omega⟩ hl h hm (by omega)).mono fun e w' h => ⟨h.1, h.2.symm⟩
      generalize hv q k l = v at *
      go_wp2_with (first | (go_at_call 34; refine (cv _ hI).mono ?_; rintro e w' ⟨rfl, rfl⟩) | (at_builtin; refine wpList_int _ rfl _ _ rfl w.heap.size _ k (vals q l k) rfl (hV.alloc _) wr.heap.size v rfl (heap_alloc_new wr _) (by omega) (by simp; omega) (wr.heap.size + 1) (by simp) ?_))
      intro g cap w3 hV3 hgr hat hlt3
      have hB3 := (hB.alloc hsz (.cells #[.int .i64 v] 3)).grown hgr (by simp; omega) (fun g hg => (hV.lt g hg).1)
      clear hV hB hgr hat
      go_wp2
      go_roundw
      case rel => exact ⟨k + 1, by omega, by go_num, by rw [HVS.out]; exact hV3, hB3⟩
      case measure => simp [intOf]; omega
    · obtain rfl : k = n := by omega
      have hsl := hV.sli
      go_wp2
      go_ret
      exact ⟨_, rfl, hsl, hB⟩

theorem SlI.at {w : World} {v : Value} {xs : List Int} (h : SlI w v xs) {n : Nat} (hn : xs.length = n) : ∃ A c, v = .slice A n c ∧ Ints w A xs := by
  subst hn
  obtain ⟨A, c, hv, _, _, _, h4⟩ := h
  exact ⟨A, c, hv, h4⟩

section
variable (q n : Int) (A : Option Addr) (c m : Nat) (p l : List Int) (w : World)

set_option maxRecDepth 100000 in
set_option maxHeartbeats 1600000 in
theorem engr_noprime (h17 : Calls Try.prog 17 #[.slice A m c, .int .i64 40] w (RetInts l w)) (hl : l.length ≤ 40) (hp : primeB q = false) : Calls Try.prog 7 #[.int .i64 q, .int .i64 n, .slice A m c] w (Said true w) := by
  have he : engraveR q n l = ([], 1) := by
    unfold engraveR; rw [hp]; rfl
  have c19 : ∀ W, Calls Try.prog 19 #[.int .i64 q] W fun e w' => e = .returned (.bool false) ∧ W = w' := fun W => by
    have := (refPrime_any q W).mono fun e w' h => (⟨h.1, h.2.symm⟩ : e = .returned (.bool (primeB q)) ∧ W = w')
    rwa [hp] at this
  have c37 : ∀ (W : World) A c, Ints W A l → Calls Try.prog 37 #[.int .i64 q, .int .i64 n, .slice A l.length c] W (Ret2 (engraveR q n l).1 (engraveR q n l).2 W) := fun W A c h => engrave_ret q n A c l W h (by omega)
  rw [he] at c37
  go_enter Try.func7, Try.ntmps7
  go_wp2_with fail
  refine h17.mono ?_
  rintro e w1 ⟨v1, rfl, hs1, hb1⟩
  obtain ⟨A1, c1, rfl, _, _, _, hI⟩ := hs1
  go_wp2_with fail
  refine (c37 _ _ _ hI).mono ?_
  rintro e w2 ⟨v2, rfl, hs2, hb2⟩
  obtain ⟨A2, c2, rfl, _, _, _, hJ⟩ := hs2
  go_wp2_with (first
    | (go_at_call 19; refine (c19 _).mono ?_; rintro e w' ⟨rfl, rfl⟩)
    | (go_at_call 21; refine (lives_any _).mono ?_; rintro e w4 ⟨rfl, hb4⟩)
)
  have hbf : Below w.heap.size w w4 := hb1.trans ((hb2.mono hb1.size).trans (hb4.mono (by have := hb1.size; have := hb2.size; omega)))
  go_ret
  exact ⟨rfl, hbf⟩

set_option maxRecDepth 100000 in
set_option maxHeartbeats 1600000 in
theorem engr_big (h17 : Calls Try.prog 17 #[.slice A m c, .int .i64 40] w (RetInts l w)) (hl : l.length ≤ 40) (hp : primeB q = true) (hn : q < n) : Calls Try.prog 7 #[.int .i64 q, .int .i64 n, .slice A m c] w (Said true w) := by
  have he : engraveR q n l = ([], 1) := by
    have hd : decide (n ≤ q) = false := by simp; omega
    unfold engraveR; rw [hd]; simp
  have c19 : ∀ W, Calls Try.prog 19 #[.int .i64 q] W fun e w' => e = .returned (.bool true) ∧ W = w' := fun W => by
    have := (refPrime_any q W).mono fun e w' h => (⟨h.1, h.2.symm⟩ : e = .returned (.bool (primeB q)) ∧ W = w')
    rwa [hp] at this
  have c37 : ∀ (W : World) A c, Ints W A l → Calls Try.prog 37 #[.int .i64 q, .int .i64 n, .slice A l.length c] W (Ret2 (engraveR q n l).1 (engraveR q n l).2 W) := fun W A c h => engrave_ret q n A c l W h (by omega)
  rw [he] at c37
  go_enter Try.func7, Try.ntmps7
  go_wp2_with fail
  refine h17.mono ?_
  rintro e w1 ⟨v1, rfl, hs1, hb1⟩
  obtain ⟨A1, c1, rfl, _, _, _, hI⟩ := hs1
  go_wp2_with fail
  refine (c37 _ _ _ hI).mono ?_
  rintro e w2 ⟨v2, rfl, hs2, hb2⟩
  obtain ⟨A2, c2, rfl, _, _, _, hJ⟩ := hs2
  go_wp2_with (first
    | (go_at_call 19; refine (c19 _).mono ?_; rintro e w' ⟨rfl, rfl⟩)
    | (go_at_call 21; refine (lives_any _).mono ?_; rintro e w4 ⟨rfl, hb4⟩)
)
  have hbf : Below w.heap.size w w4 := hb1.trans ((hb2.mono hb1.size).trans (hb4.mono (by have := hb1.size; have := hb2.size; omega)))
  go_ret
  exact ⟨rfl, hbf⟩

set_option maxRecDepth 100000 in
set_option maxHeartbeats 1600000 in
theorem engr_none (h17 : Calls Try.prog 17 #[.slice A m c, .int .i64 40] w (RetInts l w)) (hl : l.length ≤ 40) (hp : primeB q = true) (hn : n ≤ q) (h0 : l = []) : Calls Try.prog 7 #[.int .i64 q, .int .i64 n, .slice A m c] w (Said true w) := by
  have he : engraveR q n l = ([], 1) := by
    unfold engraveR; rw [h0]; simp
  have c19 : ∀ W, Calls Try.prog 19 #[.int .i64 q] W fun e w' => e = .returned (.bool true) ∧ W = w' := fun W => by
    have := (refPrime_any q W).mono fun e w' h => (⟨h.1, h.2.symm⟩ : e = .returned (.bool (primeB q)) ∧ W = w')
    rwa [hp] at this
  have c37 : ∀ (W : World) A c, Ints W A l → Calls Try.prog 37 #[.int .i64 q, .int .i64 n, .slice A l.length c] W (Ret2 (engraveR q n l).1 (engraveR q n l).2 W) := fun W A c h => engrave_ret q n A c l W h (by omega)
  rw [he] at c37
  have g0 : ¬ q < n := by omega
  subst h0
  go_enter Try.func7, Try.ntmps7
  go_wp2_with fail
  refine h17.mono ?_
  rintro e w1 ⟨v1, rfl, hs1, hb1⟩
  obtain ⟨A1, c1, rfl, _, _, _, hI⟩ := hs1
  go_wp2_with fail
  refine (c37 _ _ _ hI).mono ?_
  rintro e w2 ⟨v2, rfl, hs2, hb2⟩
  obtain ⟨A2, c2, rfl, _, _, _, hJ⟩ := hs2
  go_wp2_with (first
    | (go_at_call 19; refine (c19 _).mono ?_; rintro e w' ⟨rfl, rfl⟩)
    | (go_at_call 21; refine (lives_any _).mono ?_; rintro e w4 ⟨rfl, hb4⟩)
)
  have hbf : Below w.heap.size w w4 := hb1.trans ((hb2.mono hb1.size).trans (hb4.mono (by have := hb1.size; have := hb2.size; omega)))
  go_ret
  exact ⟨rfl, hbf⟩

set_option maxRecDepth 100000 in
set_option maxHeartbeats 1600000 in
theorem engr_long (h17 : Calls Try.prog 17 #[.slice A m c, .int .i64 40] w (RetInts l w)) (hl : l.length ≤ 40) (hp : primeB q = true) (hn : n ≤ q) (h0 : 1 ≤ l.length) (h1 : n < (l.length : Int)) : Calls Try.prog 7 #[.int .i64 q, .int .i64 n, .slice A m c] w (Said true w) := by
  have he : engraveR q n l = ([], 1) := by
    have hd : decide ((l.length : Int) ≤ n) = false := by simp; omega
    unfold engraveR; rw [hd]; simp
  have c19 : ∀ W, Calls Try.prog 19 #[.int .i64 q] W fun e w' => e = .returned (.bool true) ∧ W = w' := fun W => by
    have := (refPrime_any q W).mono fun e w' h => (⟨h.1, h.2.symm⟩ : e = .returned (.bool (primeB q)) ∧ W = w')
    rwa [hp] at this
  have c37 : ∀ (W : World) A c, Ints W A l → Calls Try.prog 37 #[.int .i64 q, .int .i64 n, .slice A l.length c] W (Ret2 (engraveR q n l).1 (engraveR q n l).2 W) := fun W A c h => engrave_ret q n A c l W h (by omega)
  rw [he] at c37
  have g0 : ¬ q < n := by omega
  have g1 : ¬ (l.length < 1) := by omega
  have g2 : ¬ ((l.length : Int) < 1) := by omega
  have g3 : ¬ (l.length = 0) := by omega
  go_enter Try.func7, Try.ntmps7
  go_wp2_with fail
  refine h17.mono ?_
  rintro e w1 ⟨v1, rfl, hs1, hb1⟩
  obtain ⟨A1, c1, rfl, _, _, _, hI⟩ := hs1
  go_wp2_with fail
  refine (c37 _ _ _ hI).mono ?_
  rintro e w2 ⟨v2, rfl, hs2, hb2⟩
  obtain ⟨A2, c2, rfl, _, _, _, hJ⟩ := hs2
  go_wp2_with (first
    | (go_at_call 19; refine (c19 _).mono ?_; rintro e w' ⟨rfl, rfl⟩)
    | (go_at_call 21; refine (lives_any _).mono ?_; rintro e w4 ⟨rfl, hb4⟩)
)
  have hbf : Below w.heap.size w w4 := hb1.trans ((hb2.mono hb1.size).trans (hb4.mono (by have := hb1.size; have := hb2.size; omega)))
  go_ret
  exact ⟨rfl, hbf⟩

set_option maxRecDepth 100000 in
set_option maxHeartbeats 1600000 in
theorem engr_out (h17 : Calls Try.prog 17 #[.slice A m c, .int .i64 40] w (RetInts l w)) (hl : l.length ≤ 40) (hp : primeB q = true) (hn : n ≤ q) (h0 : 1 ≤ l.length) (h1 : (l.length : Int) ≤ n) (hel : elemB q l = false) : Calls Try.prog 7 #[.int .i64 q, .int .i64 n, .slice A m c] w (Said true w) := by
  have he : engraveR q n l = ([], 1) := by
    unfold engraveR; rw [hel]; simp
  have c19 : ∀ W, Calls Try.prog 19 #[.int .i64 q] W fun e w' => e = .returned (.bool true) ∧ W = w' := fun W => by
    have := (refPrime_any q W).mono fun e w' h => (⟨h.1, h.2.symm⟩ : e = .returned (.bool (primeB q)) ∧ W = w')
    rwa [hp] at this
  have c37 : ∀ (W : World) A c, Ints W A l → Calls Try.prog 37 #[.int .i64 q, .int .i64 n, .slice A l.length c] W (Ret2 (engraveR q n l).1 (engraveR q n l).2 W) := fun W A c h => engrave_ret q n A c l W h (by omega)
  rw [he] at c37
  have hb := prime_bd hp
  obtain ⟨hb1, hb2⟩ := hb
  have g0 : ¬ q < n := by omega
  have g1 : ¬ (l.length < 1) := by omega
  have g2 : ¬ ((l.length : Int) < 1) := by omega
  have g3 : ¬ (l.length = 0) := by omega
  have g4 : ¬ (n < (l.length : Int)) := by omega
  have c20 : ∀ (W : World) A c, Ints W A l → Calls Try.prog 20 #[.int .i64 q, .slice A l.length c] W fun e w' => e = .returned (.bool (elemB q l)) ∧ W = w' := fun W A c h => (refElements_any q A c l.length l W ⟨by omega, by omega⟩ h rfl (by omega)).mono fun e w' h => ⟨h.1, h.2.symm⟩
  rw [hel] at c20
  go_enter Try.func7, Try.ntmps7
  go_wp2_with fail
  refine h17.mono ?_
  rintro e w1 ⟨v1, rfl, hs1, hb1⟩
  obtain ⟨A1, c1, rfl, _, _, _, hI⟩ := hs1
  go_wp2_with fail
  refine (c37 _ _ _ hI).mono ?_
  rintro e w2 ⟨v2, rfl, hs2, hb2⟩
  obtain ⟨A2, c2, rfl, _, _, _, hJ⟩ := hs2
  go_wp2_with (first
    | (go_at_call 19; refine (c19 _).mono ?_; rintro e w' ⟨rfl, rfl⟩)
    | (go_at_call 21; refine (lives_any _).mono ?_; rintro e w4 ⟨rfl, hb4⟩)
    | (go_at_call 20; refine (c20 _ _ _ (Ints.below hI hb2)).mono ?_; rintro e w' ⟨rfl, rfl⟩)
)
  have hbf : Below w.heap.size w w4 := hb1.trans ((hb2.mono hb1.size).trans (hb4.mono (by have := hb1.size; have := hb2.size; omega)))
  go_ret
  exact ⟨rfl, hbf⟩

set_option maxRecDepth 100000 in
set_option maxHeartbeats 1600000 in
theorem engr_good (h17 : Calls Try.prog 17 #[.slice A m c, .int .i64 40] w (RetInts l w)) (hl : l.length ≤ 40) (hp : primeB q = true) (hn : n ≤ q) (h0 : 1 ≤ l.length) (h1 : (l.length : Int) ≤ n) (hel : elemB q l = true) : Calls Try.prog 7 #[.int .i64 q, .int .i64 n, .slice A m c] w (Said true w) := by
  have he : engraveR q n l = (vals q l n.toNat, 0) := by
    have d1 : decide (1 ≤ (l.length : Int)) = true := by simp; omega
    have d2 : decide ((l.length : Int) ≤ n) = true := by simpa using h1
    have d3 : decide (n ≤ q) = true := by simpa using hn
    unfold engraveR; rw [hp, hel, d1, d2, d3]; simp
  have c19 : ∀ W, Calls Try.prog 19 #[.int .i64 q] W fun e w' => e = .returned (.bool true) ∧ W = w' := fun W => by
    have := (refPrime_any q W).mono fun e w' h => (⟨h.1, h.2.symm⟩ : e = .returned (.bool (primeB q)) ∧ W = w')
    rwa [hp] at this
  have c37 : ∀ (W : World) A c, Ints W A l → Calls Try.prog 37 #[.int .i64 q, .int .i64 n, .slice A l.length c] W (Ret2 (engraveR q n l).1 (engraveR q n l).2 W) := fun W A c h => engrave_ret q n A c l W h (by omega)
  rw [he] at c37
  have hb := prime_bd hp
  obtain ⟨hb1, hb2⟩ := hb
  have g0 : ¬ q < n := by omega
  have g1 : ¬ (l.length < 1) := by omega
  have g2 : ¬ ((l.length : Int) < 1) := by omega
  have g3 : ¬ (l.length = 0) := by omega
  have g4 : ¬ (n < (l.length : Int)) := by omega
  have c20 : ∀ (W : World) A c, Ints W A l → Calls Try.prog 20 #[.int .i64 q, .slice A l.length c] W fun e w' => e = .returned (.bool (elemB q l)) ∧ W = w' := fun W A c h => (refElements_any q A c l.length l W ⟨by omega, by omega⟩ h rfl (by omega)).mono fun e w' h => ⟨h.1, h.2.symm⟩
  rw [hel] at c20
  obtain ⟨k, rfl⟩ : ∃ k : Nat, n = k := ⟨n.toNat, by omega⟩
  simp only [Int.toNat_natCast] at c37
  have c38 : ∀ (W : World) A c, Ints W A l → Calls Try.prog 38 #[.int .i64 q, .int .i64 k, .slice A l.length c] W (RetInts (vals q l k) W) := fun W A c h => refEngrave_any q k l.length A c l W ⟨by omega, by omega⟩ hel h rfl (by omega) (by omega)
  have c23 : ∀ (W : World) A B c d, Ints W A (vals q l k) → Ints W B (vals q l k) → Calls Try.prog 23 #[.slice A k c, .slice B k d] W fun e w' => e = .returned (.bool true) ∧ ∃ z, w' = W.drewN z := fun W A B c d h1 h2 => by
    have := lawsame_any A B k k c d (vals q l k) (vals q l k) W h1 h2 (vals_length _ _ _) (vals_length _ _ _) (by omega) (by omega)
    simpa using this
  have hvl := vals_length q l k
  clear he
  generalize vals q l k = vs at *
  go_enter Try.func7, Try.ntmps7
  go_wp2_with fail
  refine h17.mono ?_
  rintro e w1 ⟨v1, rfl, hs1, hb1⟩
  obtain ⟨A1, c1, rfl, _, _, _, hI⟩ := hs1
  go_wp2_with fail
  refine (c37 _ _ _ hI).mono ?_
  rintro e w2 ⟨v2, rfl, hs2, hb2⟩
  obtain ⟨A2, c2, rfl, hJ⟩ := hs2.at hvl
  go_wp2_with (first
    | (go_at_call 19; refine (c19 _).mono ?_; rintro e w' ⟨rfl, rfl⟩)
    | (go_at_call 20; refine (c20 _ _ _ (Ints.below hI hb2)).mono ?_; rintro e w' ⟨rfl, rfl⟩)
)
  refine (c38 _ _ _ (Ints.below hI hb2)).mono ?_
  rintro e w3 ⟨v3, rfl, hs3, hb3⟩
  obtain ⟨A3, c3, rfl, hK⟩ := hs3.at hvl
  go_wp2_with fail
  refine (c23 _ _ _ _ _ (Ints.below hJ hb3) hK).mono ?_
  rintro e w4 ⟨rfl, k4, rfl⟩
  go_wp2_with (go_at_call 21; refine (lives_any _).mono ?_; rintro e w5 ⟨rfl, hb5⟩)
  have hbf : Below w.heap.size w w3 := hb1.trans ((hb2.mono hb1.size).trans (hb3.mono (by have := hb1.size; have := hb2.size; omega)))
  have hbg : Below w.heap.size w w5 := (hbf.drewN k4).trans (hb5.mono (by have := hbf.size; simpa using this))
  go_ret
  exact ⟨rfl, hbg⟩

theorem engraves_any (hA : Ints w A p) (hn : p.length = m) (hnc : m ≤ c) (hnil : A = none → c = 0) :
    Calls Try.prog 7 #[.int .i64 q, .int .i64 n, .slice A m c] w (Said true w) := by
  have h17 := cut_any A m c 40 40 p w hA hn hnc rfl (by omega) hnil
  have hl : (p.take 40).length ≤ 40 := by simp; omega
  generalize p.take 40 = l at *
  by_cases hp : primeB q = true
  · by_cases h0 : q < n
    · exact engr_big q n A c m l w h17 hl hp h0
    · by_cases h1 : l = []
      · exact engr_none q n A c m l w h17 hl hp (by omega) h1
      · have h1' : 1 ≤ l.length := by
          rcases Nat.eq_zero_or_pos l.length with h | h
          · exact absurd (List.eq_nil_of_length_eq_zero h) h1
          · exact h
        by_cases h2 : n < (l.length : Int)
        · exact engr_long q n A c m l w h17 hl hp (by omega) h1' h2
        · by_cases hel : elemB q l = true
          · exact engr_good q n A c m l w h17 hl hp (by omega) h1' (by omega) hel
          · exact engr_out q n A c m l w h17 hl hp (by omega) h1' (by omega) (by simpa using hel)
  · exact engr_noprime q n A c m l w h17 hl (by simpa using hp)
end
end Go.Proofs.Ytneliejncfncdaa
