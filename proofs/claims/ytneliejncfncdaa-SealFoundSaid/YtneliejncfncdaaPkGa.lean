/- Texts Gb Ga Gd Gc in one. -/
import Derived.Test.YtneliejncfncdaaPkQ
namespace Go.Proofs.Ytneliejncfncdaa
open Go.RowKit

/-- Numbers rise, from above last on, and are below a limit. -/
def rsB (limit : Int) : Int → List Int → Bool
  | _, [] => true
  | last, n :: r => decide (last < n) && decide (n < limit) && rsB limit n r

set_option maxHeartbeats 800000 in
theorem rising_any (A : Option Addr) (c n : Nat) (l : List Int) (limit : Int) (w : World) (hA : Ints w A l) (hn : l.length = n) (hb : n ≤ 1000000) :
    Calls Try.prog 73 #[.slice A n c, .int .i64 limit] w fun e w' => e = .returned (.bool (rsB limit (-1) l)) ∧ w' = w := by
  have HN := Lib.hid hn
  clear hn
  go_enter Try.func73, Try.ntmps73
  go_wp2
  go_loop [5, 10] (fun s i => ∃ (k : Nat) (z : Int), k ≤ n ∧ i = .int .i64 k ∧ s = .int .i64 z ∧ rsB limit (-1) l = rsB limit z (l.drop k)) (fun _ i => n - (intOf i).toNat)
  case atStart => exact ⟨0, -1, by omega, rfl, rfl, rfl⟩
  case round =>
    obtain ⟨k, z, hk, rfl, rfl, hr⟩ := hrel
    by_cases hlt : k < n
    · obtain ⟨b, o, rfl, hl, hc⟩ := hA.get (k := k) (by rw [HN.out]; exact hlt)
      have hkl : k < l.length := by rw [HN.out]; exact hlt
      have hd : l.drop k = l[k] :: l.drop (k + 1) := (List.drop_eq_getElem_cons hkl)
      rw [hd] at hr
      generalize l[k] = x at *
      rw [rsB] at hr
      clear hd
      by_cases h1 : z < x
      · by_cases h2 : x < limit
        · rw [decide_eq_true h1, decide_eq_true h2, Bool.true_and, Bool.true_and] at hr
          have HR := Lib.hid hr
          have g1 : decide (x ≤ z) = false := decide_eq_false (by omega)
          have g2 : decide (limit ≤ x) = false := decide_eq_false (by omega)
          have g3 : ¬ x ≤ z := by omega
          have g4 : ¬ limit ≤ x := by omega
          clear hr
          go_wp2
          go_round
          case rel => exact ⟨k + 1, x, by omega, by go_num, rfl, HR.out⟩
          case measure => simp [intOf]; omega
        · rw [decide_eq_false h2, Bool.and_false, Bool.false_and] at hr
          have HR := Lib.hid hr
          have g1 : decide (x ≤ z) = false := decide_eq_false (by omega)
          have g2 : decide (limit ≤ x) = true := decide_eq_true (by omega)
          have g4 : limit ≤ x := by omega
          have g3 : ¬ x ≤ z := by omega
          clear hr
          go_wp2
          go_ret
          exact ⟨ret_bool HR.out.symm, rfl⟩
      · rw [decide_eq_false h1, Bool.false_and, Bool.false_and] at hr
        have HR := Lib.hid hr
        have g1 : decide (x ≤ z) = true := decide_eq_true (by omega)
        have g3 : x ≤ z := by omega
        clear hr
        go_wp2
        go_ret
        exact ⟨ret_bool HR.out.symm, rfl⟩
    · obtain rfl : k = n := by omega
      have hr2 : rsB limit (-1) l = true := by
        rw [hr, List.drop_eq_nil_of_le (by rw [HN.out]; omega)]; rfl
      have HR := Lib.hid hr2
      clear hr hr2
      go_wp2
      go_ret
      exact ⟨ret_bool HR.out.symm, rfl⟩
end Go.Proofs.Ytneliejncfncdaa

namespace Go.Proofs.Ytneliejncfncdaa
open Go.RowKit

def RetItems (q t : Int) (w : World) (e : Ending) (w' : World) : Prop :=
  ∃ I : Int, e = .returned (.int .i64 I) ∧ (q ^ t.toNat ≤ 1000 → I = q ^ t.toNat) ∧ (1000 < q ^ t.toNat → 1000 < I) ∧ Below w.heap.size w w'

set_option maxRecDepth 100000 in
set_option maxHeartbeats 800000 in
theorem refItems_any (q t n : Int) (w : World) (hq : 2 ≤ q ∧ q ≤ 31) (ht : 1 ≤ t ∧ t ≤ 31) :
    Calls Try.prog 25 #[pools q t n] w (RetItems q t w) := by
  obtain ⟨hq1, hq2⟩ := hq
  obtain ⟨ht1, ht2⟩ := ht
  obtain ⟨m, rfl⟩ : ∃ m : Nat, t = m := ⟨t.toNat, by omega⟩
  have hb0 : Below w.heap.size w (w.alloc (.cells #[.int .i64 q, .int .i64 m, .int .i64 n] 35)) := (Below.refl _ _).alloc (Nat.le_refl _) _
  go_enter Try.func25, Try.ntmps25
  go_wp2_with fail
  go_loop [3, 4] (fun s i => ∃ k : Nat, k ≤ m ∧ i = .int .i64 k ∧ s = .int .i64 (q ^ k) ∧ q ^ k ≤ 31000) (fun _ i => m - (intOf i).toNat)
  case atStart => exact ⟨0, by omega, rfl, by simp, by simp⟩
  case round =>
    obtain ⟨k, hk, rfl, rfl, hkb⟩ := hrel
    have hpk := pow_bd (q := q) (by omega) k
    have hps : q ^ (k + 1) = q ^ k * q := Int.pow_succ ..
    have hres : (k = m ∨ 1000 < q ^ k) → (q ^ (m : Int).toNat ≤ 1000 → q ^ k = q ^ (m : Int).toNat) ∧ (1000 < q ^ (m : Int).toNat → 1000 < q ^ k) := by
      intro h
      simp only [Int.toNat_natCast]
      rcases h with rfl | h
      · exact ⟨fun _ => rfl, fun h => h⟩
      · have := pow_mono (q := q) (by omega) (k := k) (m := m) hk
        exact ⟨fun h' => by omega, fun _ => h⟩
    by_cases h1 : k < m
    · by_cases h2 : q ^ k ≤ 1000
      · have hm1 : 0 ≤ q ^ k * q := Int.mul_nonneg (by omega) (by omega)
        have hm2 : q ^ k * q ≤ 1000 * 31 := Int.mul_le_mul h2 hq2 (by omega) (by omega)
        clear hres
        have HPS := Lib.hid hps
        clear hps
        generalize q ^ k = s at *
        have hw : IntKind.i64.wrap (s * q) = s * q := IntWalk.i64_in _ (by omega)
        go_wp2
        go_round
        case rel => exact ⟨k + 1, by omega, by go_num, by rw [HPS.out], by rw [HPS.out]; omega⟩
        case measure => simp [intOf]; omega
      · have hr := hres (.inr (by omega))
        have HR := Lib.hid hr
        clear hres hr hps
        generalize q ^ k = s at *
        go_wp2
        go_ret
        exact ⟨s, rfl, HR.out.1, HR.out.2, hb0⟩
    · obtain rfl : k = m := by omega
      have hr := hres (.inl rfl)
      have HR := Lib.hid hr
      clear hres hr hps
      generalize hs : q ^ k = s at *
      clear hs
      go_wp2
      go_ret
      exact ⟨s, rfl, HR.out.1, HR.out.2, hb0⟩

theorem items_pos (q t n : Int) : (decide (0 < itemsM q t n)) = (primeB q && (decide (1 ≤ t) && decide (t ≤ q)) && (decide (t ≤ n) && decide (n ≤ q)) && decide (q ^ t.toNat ≤ 1000)) := by
  cases h : (primeB q && (decide (1 ≤ t) && decide (t ≤ q)) && (decide (t ≤ n) && decide (n ≤ q)) && decide (q ^ t.toNat ≤ 1000)) with
  | true =>
    simp only [Bool.and_eq_true, decide_eq_true_eq] at h
    obtain ⟨⟨⟨h1, h2, h3⟩, h4, h5⟩, h6⟩ := h
    rw [items_pow ⟨h1, h2, h3, h4, h5, h6⟩]
    have := prime_bd h1
    have := pow_bd (q := q) (by omega) t.toNat
    simp
    omega
  | false =>
    have : itemsM q t n = 0 := items_zero fun ⟨h1, h2, h3, h4, h5, h6⟩ => by
      rw [h1, decide_eq_true h2, decide_eq_true h3, decide_eq_true h4, decide_eq_true h5, decide_eq_true h6] at h
      cases h
    rw [this]
    rfl

set_option maxRecDepth 100000 in
set_option maxHeartbeats 1600000 in
theorem refValid_any (q t n : Int) (w : World) : Calls Try.prog 46 #[pools q t n] w (Said (decide (0 < itemsM q t n)) w) := by
  have hb0 : Below w.heap.size w (w.alloc (.cells #[.int .i64 q, .int .i64 t, .int .i64 n] 35)) := (Below.refl _ _).alloc (Nat.le_refl _) _
  have k0 : (w.alloc (.cells #[.int .i64 q, .int .i64 t, .int .i64 n] 35)).cell? ⟨w.heap.size, 0, none⟩ = some (.int .i64 q) := by simp [go_sem]
  rw [items_pos]
  have c19 : ∀ W, Calls Try.prog 19 #[.int .i64 q] W fun e w' => e = .returned (.bool (primeB q)) ∧ W = w' := fun W => (refPrime_any q W).mono fun e w' h => ⟨h.1, h.2.symm⟩
  have ct : ∀ W, Calls Try.prog 63 #[.int .i64 t, .int .i64 1, .int .i64 q] W fun e w' => e = .returned (.bool (decide (1 ≤ t) && decide (t ≤ q))) ∧ W = w' := fun W => (in_any t 1 q W).mono fun e w' h => ⟨h.1, h.2.symm⟩
  have cn : ∀ W, Calls Try.prog 63 #[.int .i64 n, .int .i64 t, .int .i64 q] W fun e w' => e = .returned (.bool (decide (t ≤ n) && decide (n ≤ q))) ∧ W = w' := fun W => (in_any n t q W).mono fun e w' h => ⟨h.1, h.2.symm⟩
  clear k0
  cases h1 : primeB q with
  | false =>
    rw [h1] at c19
    clear ct cn
    simp only [Bool.false_and]
    go_enter Try.func46, Try.ntmps46
    go_wp2_with (go_at_call 19; refine (c19 _).mono ?_; rintro e w' ⟨rfl, rfl⟩)
    go_ret
    exact ⟨rfl, hb0⟩
  | true =>
    rw [h1] at c19
    have hpr := prime_bd h1
    cases h2 : (decide (1 ≤ t) && decide (t ≤ q)) with
    | false =>
      rw [h2] at ct
      clear cn
      simp only [Bool.false_and, Bool.and_false]
      go_enter Try.func46, Try.ntmps46
      go_wp2_with fail
      refine (c19 _).mono ?_
      rintro e w' ⟨rfl, rfl⟩
      go_wp2_with fail
      refine (ct _).mono ?_
      rintro e w' ⟨rfl, rfl⟩
      go_wp2
      go_ret
      exact ⟨rfl, hb0⟩
    | true =>
      rw [h2] at ct
      cases h3 : (decide (t ≤ n) && decide (n ≤ q)) with
      | false =>
        rw [h3] at cn
        simp only [Bool.false_and, Bool.and_false]
        go_enter Try.func46, Try.ntmps46
        go_wp2_with fail
        refine (c19 _).mono ?_
        rintro e w' ⟨rfl, rfl⟩
        go_wp2_with fail
        refine (ct _).mono ?_
        rintro e w' ⟨rfl, rfl⟩
        go_wp2_with fail
        refine (cn _).mono ?_
        rintro e w' ⟨rfl, rfl⟩
        go_wp2
        go_ret
        exact ⟨rfl, hb0⟩
      | true =>
        rw [h3] at cn
        simp only [Bool.and_eq_true, decide_eq_true_eq] at h2
        obtain ⟨h2a, h2b⟩ := h2
        obtain ⟨hp1, hp2⟩ := hpr
        have c25 : ∀ W, Calls Try.prog 25 #[pools q t n] W (RetItems q t W) := fun W => refItems_any q t n W ⟨hp1, hp2⟩ ⟨h2a, by omega⟩
        clear h3
        by_cases h4 : q ^ t.toNat ≤ 1000
        · rw [decide_eq_true h4]
          simp only [Bool.and_self]
          go_enter Try.func46, Try.ntmps46
          go_wp2_with fail
          refine (c19 _).mono ?_
          rintro e w' ⟨rfl, rfl⟩
          go_wp2_with fail
          refine (ct _).mono ?_
          rintro e w' ⟨rfl, rfl⟩
          go_wp2_with fail
          refine (cn _).mono ?_
          rintro e w' ⟨rfl, rfl⟩
          go_wp2_with fail
          refine (c25 _).mono ?_
          rintro e w1 ⟨I, rfl, g1, g2, hb1⟩
          have e1 := g1 h4
          have hI : decide (I ≤ 1000) = true := decide_eq_true (by omega)
          have hbf := hb0.trans (hb1.mono (by simp))
          clear g1 g2 e1 c19 ct cn c25
          go_wp2
          go_ret
          exact ⟨rfl, hbf⟩
        · rw [decide_eq_false h4]
          simp only [Bool.and_false]
          go_enter Try.func46, Try.ntmps46
          go_wp2_with fail
          refine (c19 _).mono ?_
          rintro e w' ⟨rfl, rfl⟩
          go_wp2_with fail
          refine (ct _).mono ?_
          rintro e w' ⟨rfl, rfl⟩
          go_wp2_with fail
          refine (cn _).mono ?_
          rintro e w' ⟨rfl, rfl⟩
          go_wp2_with fail
          refine (c25 _).mono ?_
          rintro e w1 ⟨I, rfl, g1, g2, hb1⟩
          have e1 := g2 (by omega)
          have hI : decide (I ≤ 1000) = false := decide_eq_false (by omega)
          have hbf := hb0.trans (hb1.mono (by simp))
          clear g1 g2 e1 c19 ct cn c25
          go_wp2
          go_ret
          exact ⟨rfl, hbf⟩
end Go.Proofs.Ytneliejncfncdaa

namespace Go.Proofs.Ytneliejncfncdaa
open Go.RowKit

set_option maxHeartbeats 800000 in
theorem Check_any (q t n : Int) (w : World) : Calls Try.prog 47 #[pools q t n] w fun e w' => e = .returned (.int .i64 (if itemsM q t n = 0 then 1 else 0)) ∧ Below w.heap.size w w' := by
  have hb0 : Below w.heap.size w (w.alloc (.cells #[.int .i64 q, .int .i64 t, .int .i64 n] 35)) := (Below.refl _ _).alloc (Nat.le_refl _) _
  generalize hI : itemsM q t n = I
  have c64 : ∀ W, Calls Try.prog 64 #[pools q t n] W fun e w' => e = .returned (.int .i64 I) ∧ Below W.heap.size W w' := fun W => by rw [← hI]; exact items_any q t n W
  clear hI
  by_cases h : I = 0
  · subst h
    rw [if_pos rfl]
    go_enter Try.func47, Try.ntmps47
    go_wp2_with (go_at_call 64; refine (c64 _).mono ?_; rintro e w1 ⟨rfl, hb1⟩)
    go_ret
    exact ⟨rfl, hb0.trans (hb1.mono (by simp))⟩
  · rw [if_neg h]
    have hb : (I == 0) = false := by simpa using h
    go_enter Try.func47, Try.ntmps47
    go_wp2_with (go_at_call 64; refine (c64 _).mono ?_; rintro e w1 ⟨rfl, hb1⟩)
    go_ret
    exact ⟨rfl, hb0.trans (hb1.mono (by simp))⟩

/-- Strength where the pools are valid. -/
def strG (I t n e : Int) : Int := if n ≤ 2 * e then -1 else if t = 1 then I else (n - 1 - 2 * e) / (t - 1)
/-- The code's Strength. -/
def strR (q t n e : Int) : Int × Int := if itemsM q t n = 0 ∨ e < 0 ∨ 100 < e then (0, 1) else (strG (itemsM q t n) t n e, 0)

set_option maxRecDepth 100000 in
set_option maxHeartbeats 1600000 in
theorem Strength_any (q t n e : Int) (w : World) : Calls Try.prog 45 #[pools q t n, .int .i64 e] w fun e' w' => e' = .returned (.tuple #[.int .i64 (strR q t n e).1, .int .i64 (strR q t n e).2]) ∧ Below w.heap.size w w' := by
  have hb0 : Below w.heap.size w (w.alloc (.cells #[.int .i64 q, .int .i64 t, .int .i64 n] 35)) := (Below.refl _ _).alloc (Nat.le_refl _) _
  have hv := fun h => items_valid (q := q) (t := t) (n := n) h
  have hp := fun h => prime_bd (q := q) h
  have hI0 : itemsM q t n = 0 ∨ 0 < itemsM q t n := by
    by_cases hc : primeB q = true ∧ 1 ≤ t ∧ t ≤ q ∧ t ≤ n ∧ n ≤ q ∧ q ^ t.toNat ≤ 1000
    · right
      rw [items_pow hc]
      have := hp hc.1
      have := pow_bd (q := q) (by omega) t.toNat
      omega
    · exact .inl (items_zero hc)
  unfold strR
  generalize hI : itemsM q t n = I at *
  have c64 : ∀ W, Calls Try.prog 64 #[pools q t n] W fun e w' => e = .returned (.int .i64 I) ∧ Below W.heap.size W w' := fun W => by rw [← hI]; exact items_any q t n W
  clear hI
  by_cases h1 : I = 0
  · subst h1
    rw [if_pos (.inl rfl)]
    clear hv hp hI0
    go_enter Try.func45, Try.ntmps45
    go_wp2_with (go_at_call 64; refine (c64 _).mono ?_; rintro e' w1 ⟨rfl, hb1⟩; have k1 := hb1.cell (p := ⟨w.heap.size, 1, none⟩) (by simp); have k2 := hb1.cell (p := ⟨w.heap.size, 2, none⟩) (by simp); simp [go_sem] at k1 k2; have hs1 := hb1.size; simp at hs1)
    go_ret2
    exact ⟨rfl, hb0.trans (hb1.mono (by simp))⟩
  · have hb : (I == 0) = false := by simpa using h1
    have hvv : primeB q = true ∧ 1 ≤ t ∧ t ≤ q ∧ t ≤ n ∧ n ≤ q := by
      have := hv (by omega)
      exact ⟨this.1, this.2.1, this.2.2.1, this.2.2.2.1, this.2.2.2.2.1⟩
    obtain ⟨v1, v2, v3, v4, v5⟩ := hvv
    have hpp := hp v1
    obtain ⟨p1, p2⟩ := hpp
    clear hv hp hI0 v1
    by_cases h2 : e < 0
    · rw [if_pos (.inr (.inl h2))]
      go_enter Try.func45, Try.ntmps45
      go_wp2_with (go_at_call 64; refine (c64 _).mono ?_; rintro e' w1 ⟨rfl, hb1⟩; have k1 := hb1.cell (p := ⟨w.heap.size, 1, none⟩) (by simp); have k2 := hb1.cell (p := ⟨w.heap.size, 2, none⟩) (by simp); simp [go_sem] at k1 k2; have hs1 := hb1.size; simp at hs1)
      go_ret2
      exact ⟨rfl, hb0.trans (hb1.mono (by simp))⟩
    · by_cases h3 : 100 < e
      · rw [if_pos (.inr (.inr h3))]
        go_enter Try.func45, Try.ntmps45
        go_wp2_with (go_at_call 64; refine (c64 _).mono ?_; rintro e' w1 ⟨rfl, hb1⟩; have k1 := hb1.cell (p := ⟨w.heap.size, 1, none⟩) (by simp); have k2 := hb1.cell (p := ⟨w.heap.size, 2, none⟩) (by simp); simp [go_sem] at k1 k2; have hs1 := hb1.size; simp at hs1)
        go_ret2
        exact ⟨rfl, hb0.trans (hb1.mono (by simp))⟩
      · rw [if_neg (by omega)]
        unfold strG
        have hb2 : decide (e < 0) = false := decide_eq_false h2
        have hb3 : decide (100 < e) = false := decide_eq_false h3
        have hw : IntKind.i64.wrap (2 * e) = 2 * e := IntWalk.i64_in _ (by omega)
        by_cases h4 : n ≤ 2 * e
        · rw [if_pos h4]
          go_enter Try.func45, Try.ntmps45
          go_wp2_with (go_at_call 64; refine (c64 _).mono ?_; rintro e' w1 ⟨rfl, hb1⟩; have k1 := hb1.cell (p := ⟨w.heap.size, 1, none⟩) (by simp); have k2 := hb1.cell (p := ⟨w.heap.size, 2, none⟩) (by simp); simp [go_sem] at k1 k2; have hs1 := hb1.size; simp at hs1)
          go_ret2
          exact ⟨rfl, hb0.trans (hb1.mono (by simp))⟩
        · rw [if_neg h4]
          by_cases h5 : t = 1
          · rw [if_pos h5]
            subst h5
            go_enter Try.func45, Try.ntmps45
            go_wp2_with (go_at_call 64; refine (c64 _).mono ?_; rintro e' w1 ⟨rfl, hb1⟩; have k1 := hb1.cell (p := ⟨w.heap.size, 1, none⟩) (by simp); have k2 := hb1.cell (p := ⟨w.heap.size, 2, none⟩) (by simp); simp [go_sem] at k1 k2; have hs1 := hb1.size; simp at hs1)
            go_ret2
            exact ⟨rfl, hb0.trans (hb1.mono (by simp))⟩
          · rw [if_neg h5]
            have hb5 : (t == 1) = false := by simpa using h5
            have ht0 : ¬ (t - 1 = 0) := by omega
            have hw1 : IntKind.i64.wrap (n - 1) = n - 1 := IntWalk.i64_in _ (by omega)
            have hw2 : IntKind.i64.wrap (n - 1 - 2 * e) = n - 1 - 2 * e := IntWalk.i64_in _ (by omega)
            have hw3 : IntKind.i64.wrap (t - 1) = t - 1 := IntWalk.i64_in _ (by omega)
            have d1 : 0 ≤ (n - 1 - 2 * e) / (t - 1) := Int.ediv_nonneg (by omega) (by omega)
            have d2 : (n - 1 - 2 * e) / (t - 1) ≤ n - 1 - 2 * e := Int.ediv_le_self _ (by omega)
            have d3 : (n - 1 - 2 * e).tdiv (t - 1) = (n - 1 - 2 * e) / (t - 1) := Int.tdiv_eq_ediv_of_nonneg (by omega)
            have hw4 : IntKind.i64.wrap ((n - 1 - 2 * e) / (t - 1)) = (n - 1 - 2 * e) / (t - 1) := IntWalk.i64_in _ (by omega)
            go_enter Try.func45, Try.ntmps45
            go_wp2_with (go_at_call 64; refine (c64 _).mono ?_; rintro e' w1 ⟨rfl, hb1⟩; have k1 := hb1.cell (p := ⟨w.heap.size, 1, none⟩) (by simp); have k2 := hb1.cell (p := ⟨w.heap.size, 2, none⟩) (by simp); simp [go_sem] at k1 k2; have hs1 := hb1.size; simp at hs1)
            go_ret2
            exact ⟨rfl, hb0.trans (hb1.mono (by simp))⟩
end Go.Proofs.Ytneliejncfncdaa

namespace Go.Proofs.Ytneliejncfncdaa
open Go.RowKit

set_option maxHeartbeats 1600000 in
theorem refRising_any (A : Option Addr) (c n : Nat) (l : List Int) (limit : Int) (w : World) (hA : Ints w A l) (hn : l.length = n) (hb : n ≤ 1000000) (hlim : 0 ≤ limit ∧ limit ≤ 1000000) :
    Calls Try.prog 28 #[.slice A n c, .int .i64 limit] w fun e w' => e = .returned (.bool (rsB limit (-1) l)) ∧ ∃ z, w' = w.drewN z := by
  have HN := Lib.hid hn
  obtain ⟨hl1, hl2⟩ := hlim
  clear hn
  go_enter Try.func28, Try.ntmps28
  go_wp2
  go_loopw [5] (fun i wr => ∃ (k : Nat) (z : Int), k ≤ n ∧ i = .int .i64 k ∧ (0 < k → l[k - 1]? = some z) ∧ (k = 0 → z = -1) ∧ (-1 ≤ z) ∧ rsB limit (-1) l = rsB limit z (l.drop k) ∧ ∃ nd, wr = w.drewN nd) (fun i _ => n - (intOf i).toNat)
  case atStart => exact ⟨0, -1, by omega, rfl, by omega, fun _ => rfl, by omega, rfl, 0, rfl⟩
  case round =>
    obtain ⟨k, z, hk, rfl, hz1, hz0, hzm1, hr, nd, rfl⟩ := hrel
    by_cases hlt : k < n
    · obtain ⟨b, o, rfl, hl, hc⟩ := hA.get (k := k) (by rw [HN.out]; exact hlt)
      have hkl : k < l.length := by rw [HN.out]; exact hlt
      have hd : l.drop k = l[k] :: l.drop (k + 1) := (List.drop_eq_getElem_cons hkl)
      rw [hd] at hr
      have hxk : l[k]? = some l[k] := List.getElem?_eq_getElem hkl
      generalize l[k] = x at *
      rw [rsB] at hr
      clear hd
      have HXK := Lib.hid hxk
      clear hxk
      by_cases hk0 : k = 0
      · have hz := hz0 hk0
        subst hk0 hz
        simp only [Nat.add_zero] at hc
        by_cases h2 : 0 ≤ x ∧ x ≤ limit - 1
        · rw [decide_eq_true (show (-1 : Int) < x by omega), decide_eq_true (show x < limit by omega), Bool.true_and, Bool.true_and] at hr
          have HR := Lib.hid hr
          have H2 := Lib.hid h2
          clear hr hz1 hz0 h2
          go_wp2
          go_quiet ((first | (go_at_call 63; exact Calls.quiet_add_same (in_yes _ _ _ _ H2.out.1 H2.out.2))))
          go_wp2
          go_roundw
          case rel => exact ⟨1, x, by omega, by go_num, fun _ => HXK.out, by omega, by have := H2.out; omega, HR.out, _, rfl⟩
          case measure => simp [intOf]; omega
        · have hr2 : rsB limit (-1) l = false := by
            rw [hr]
            by_cases hx : 0 ≤ x
            · rw [decide_eq_false (show ¬ x < limit by omega)]; simp
            · rw [decide_eq_false (show ¬ (-1 : Int) < x by omega)]; simp
          have HR := Lib.hid hr2
          have H2 := Lib.hid h2
          clear hr hr2 hz1 hz0 h2
          go_wp2
          go_quiet ((first | (go_at_call 63; exact Calls.quiet_add_same (in_no _ _ _ _ H2.out))))
          go_wp2
          go_ret
          exact ⟨ret_bool HR.out.symm, _, drewN2 _ _ _⟩
      · have hzz := hz1 (by omega)
        obtain ⟨m, rfl⟩ : ∃ m, k = m + 1 := ⟨k - 1, by omega⟩
        obtain ⟨b', o', he', hl', hc'⟩ := hA.get (k := m) (by rw [HN.out]; omega)
        cases he'
        have hzm : l[m]'(by rw [HN.out]; omega) = z := by
          simp only [Nat.add_sub_cancel] at hzz
          have := (List.getElem?_eq_some_iff.1 hzz).2
          simpa using this
        rw [hzm] at hc'
        have hm1 : (((m + 1 : Nat) : Int) - 1) = (m : Int) := by omega
        have HM1 := Lib.hid hm1
        clear hzz hzm hm1 hz1 hz0
        by_cases h2 : 0 ≤ x ∧ x ≤ limit - 1
        · have H2 := Lib.hid h2
          by_cases h1 : z < x
          · rw [decide_eq_true h1, decide_eq_true (show x < limit by omega), Bool.true_and, Bool.true_and] at hr
            have HR := Lib.hid hr
            have g1 : decide (x ≤ z) = false := decide_eq_false (by omega)
            have g3 : ¬ x ≤ z := by omega
            clear hr h2
            go_wp2
            go_quiet ((first | (go_at_call 63; exact Calls.quiet_add_same (in_yes _ _ _ _ H2.out.1 H2.out.2))))
            go_wp2
            go_roundw
            case rel => exact ⟨m + 1 + 1, x, by omega, by go_num, fun _ => HXK.out, by omega, by have := H2.out; omega, HR.out, _, rfl⟩
            case measure => simp [intOf]; omega
          · have hr2 : rsB limit (-1) l = false := by rw [hr, decide_eq_false h1]; simp
            have HR := Lib.hid hr2
            have g1 : decide (x ≤ z) = true := decide_eq_true (by omega)
            have g3 : x ≤ z := by omega
            clear hr hr2 h2
            go_wp2
            go_quiet ((first | (go_at_call 63; exact Calls.quiet_add_same (in_yes _ _ _ _ H2.out.1 H2.out.2))))
            go_wp2
            go_ret
            exact ⟨ret_bool HR.out.symm, _, drewN2 _ _ _⟩
        · have H2 := Lib.hid h2
          have hzb : 0 ≤ x → ¬ (z < x ∧ x < limit) := fun h0 h => h2 ⟨h0, by omega⟩
          by_cases hx : x < limit ∧ z < x
          · exfalso; omega
          · have hr2 : rsB limit (-1) l = false := by
              rw [hr]
              by_cases h1 : z < x
              · rw [decide_eq_false (show ¬ x < limit by omega)]; simp
              · rw [decide_eq_false h1]; simp
            have HR := Lib.hid hr2
            clear hr hr2 h2 hzb hx
            go_wp2
            go_quiet ((first | (go_at_call 63; exact Calls.quiet_add_same (in_no _ _ _ _ H2.out))))
            go_wp2
            go_ret
            exact ⟨ret_bool HR.out.symm, _, drewN2 _ _ _⟩
    · obtain rfl : k = n := by omega
      have hr2 : rsB limit (-1) l = true := by
        rw [hr, List.drop_eq_nil_of_le (by rw [HN.out]; omega)]; rfl
      have HR := Lib.hid hr2
      clear hr hr2 hz1 hz0
      go_wp2
      go_ret
      exact ⟨ret_bool HR.out.symm, _, rfl⟩
end Go.Proofs.Ytneliejncfncdaa
