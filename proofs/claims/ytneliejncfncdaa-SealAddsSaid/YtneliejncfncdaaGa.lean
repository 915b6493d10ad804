/- The reference's Items, Valid. -/
import Derived.Test.YtneliejncfncdaaX
namespace Go.Proofs.Ytneliejncfncdaa
open Go.RowKit

def RetItems (q t : Int) (w : World) (e : Ending) (w' : World) : Prop :=
  ∃ I : Int, e = .returned (.int .i64 I) ∧ (q ^ t.toNat ≤ 1000 → I = q ^ t.toNat) ∧ (1000 < q ^ t.toNat → 1000 < I) ∧ Below w.heap.size w w'

set_option maxRecDepth 100000 in
set_option maxHeartbeats 800000 in
theorem refItems_any (q t n : Int) (w : World) (hq : 2 ≤ q ∧ q ≤ 31) (ht : 1 ≤ t ∧ t ≤ 31) :
    Calls Try.prog 25 #[pools q t n] w (RetItems q t w) := by
  obtain ⟨hq1, hq2⟩ := hq
  obtain ⟨ht1, ht2⟩ := ht
  obtain ⟨m, rfl⟩ : ∃ m : Nat, t = m := ⟨t.toNat, by omega⟩
  have hb0 : Below w.heap.size w (w.alloc (.cells #[.int .i64 q, .int .i64 m, .int .i64 n] 35)) := (Below.refl _ _).alloc (Nat.le_refl _) _
  go_enter Try.func25, Try.ntmps25
  go_wp2_with fail
  go_loop [3, 4] (fun s i => ∃ k : Nat, k ≤ m ∧ i = .int .i64 k ∧ s = .int .i64 (q ^ k) ∧ q ^ k ≤ 31000) (fun _ i => m - (intOf i).toNat)
  case atStart => exact ⟨0, by omega, rfl, by simp, by simp⟩
  case round =>
    obtain ⟨k, hk, rfl, rfl, hkb⟩ := hrel
    have hpk := pow_bd (q := q) (by omega) k
    have hps : q ^ (k + 1) = q ^ k * q := Int.pow_succ ..
    have hres : (k = m ∨ 1000 < q ^ k) → (q ^ (m : Int).toNat ≤ 1000 → q ^ k = q ^ (m : Int).toNat) ∧ (1000 < q ^ (m : Int).toNat → 1000 < q ^ k) := by
      intro h
      simp only [Int.toNat_natCast]
      rcases h with rfl | h
      · exact ⟨fun _ => rfl, fun h => h⟩
      · have := pow_mono (q := q) (by omega) (k := k) (m := m) hk
        exact ⟨fun h' => by omega, fun _ => h⟩
    by_cases h1 : k < m
    · by_cases h2 : q ^ k ≤ 1000
      · have hm1 : 0 ≤ q ^ k * q := Int.mul_nonneg (by omega) (by omega)
        have hm2 : q ^ k * q ≤ 1000 * 31 := Int.mul_le_mul h2 hq2 (by omega) (by omega)
        clear hres
        have HPS := Lib.hid hps
        clear hps
        generalize q ^ k = s at *
        have hw : IntKind.i64.wrap (s * q) = s * q := IntWalk.i64_in _ (by omega)
        go_wp2
        go_round
        case rel => exact ⟨k + 1, by omega, by go_num, by rw [HPS.out], by rw [HPS.out]; omega⟩
        case measure => simp [intOf]; omega
      · have hr := hres (.inr (by omega))
        have HR := Lib.hid hr
        clear hres hr hps
        generalize q ^ k = s at *
        go_wp2
        go_ret
        exact ⟨s, rfl, HR.out.1, HR.out.2, hb0⟩
    · obtain rfl : k = m := by omega
      have hr := hres (.inl rfl)
      have HR := Lib.hid hr
      clear hres hr hps
      generalize hs : q ^ k = s at *
      clear hs
      go_wp2
      go_ret
      exact ⟨s, rfl, HR.out.1, HR.out.2, hb0⟩

theorem items_pos (q t n : Int) : (decide (0 < itemsM q t n)) = (primeB q && (decide (1 ≤ t) && decide (t ≤ q)) && (decide (t ≤ n) && decide (n ≤ q)) && decide (q ^ t.toNat ≤ 1000)) := by
  cases h : (primeB q && (decide (1 ≤ t) && decide (t ≤ q)) && (decide (t ≤ n) && decide (n ≤ q)) && decide (q ^ t.toNat ≤ 1000)) with
  | true =>
    simp only [Bool.and_eq_true, decide_eq_true_eq] at h
    obtain ⟨⟨⟨h1, h2, h3⟩, h4, h5⟩, h6⟩ := h
    rw [items_pow ⟨h1, h2, h3, h4, h5, h6⟩]
    have := prime_bd h1
    have := pow_bd (q := q) (by omega) t.toNat
    simp
    omega
  | false =>
    have : itemsM q t n = 0 := items_zero fun ⟨h1, h2, h3, h4, h5, h6⟩ => by
      rw [h1, decide_eq_true h2, decide_eq_true h3, decide_eq_true h4, decide_eq_true h5, decide_eq_true h6] at h
      cases h
    rw [this]
    rfl

set_option maxRecDepth 100000 in
set_option maxHeartbeats 1600000 in
theorem refValid_any (q t n : Int) (w : World) : Calls Try.prog 46 #[pools q t n] w (Said (decide (0 < itemsM q t n)) w) := by
  have hb0 : Below w.heap.size w (w.alloc (.cells #[.int .i64 q, .int .i64 t, .int .i64 n] 35)) := (Below.refl _ _).alloc (Nat.le_refl _) _
  have k0 : (w.alloc (.cells #[.int .i64 q, .int .i64 t, .int .i64 n] 35)).cell? ⟨w.heap.size, 0, none⟩ = some (.int .i64 q) := by simp [go_sem]
  rw [items_pos]
  have c19 : ∀ W, Calls Try.prog 19 #[.int .i64 q] W fun e w' => e = .returned (.bool (primeB q)) ∧ W = w' := fun W => (refPrime_any q W).mono fun e w' h => ⟨h.1, h.2.symm⟩
  have ct : ∀ W, Calls Try.prog 63 #[.int .i64 t, .int .i64 1, .int .i64 q] W fun e w' => e = .returned (.bool (decide (1 ≤ t) && decide (t ≤ q))) ∧ W = w' := fun W => (in_any t 1 q W).mono fun e w' h => ⟨h.1, h.2.symm⟩
  have cn : ∀ W, Calls Try.prog 63 #[.int .i64 n, .int .i64 t, .int .i64 q] W fun e w' => e = .returned (.bool (decide (t ≤ n) && decide (n ≤ q))) ∧ W = w' := fun W => (in_any n t q W).mono fun e w' h => ⟨h.1, h.2.symm⟩
  clear k0
  cases h1 : primeB q with
  | false =>
    rw [h1] at c19
    clear ct cn
    simp only [Bool.false_and]
    go_enter Try.func46, Try.ntmps46
    go_wp2_with (go_at_call 19; refine (c19 _).mono ?_; rintro e w' ⟨rfl, rfl⟩)
    go_ret
    exact ⟨rfl, hb0⟩
  | true =>
    rw [h1] at c19
    have hpr := prime_bd h1
    cases h2 : (decide (1 ≤ t) && decide (t ≤ q)) with
    | false =>
      rw [h2] at ct
      clear cn
      simp only [Bool.false_and, Bool.and_false]
      go_enter Try.func46, Try.ntmps46
      go_wp2_with fail
      refine (c19 _).mono ?_
      rintro e w' ⟨rfl, rfl⟩
      go_wp2_with fail
      refine (ct _).mono ?_
      rintro e w' ⟨rfl, rfl⟩
      go_wp2
      go_ret
      exact ⟨rfl, hb0⟩
    | true =>
      rw [h2] at ct
      cases h3 : (decide (t ≤ n) && decide (n ≤ q)) with
      | false =>
        rw [h3] at cn
        simp only [Bool.false_and, Bool.and_false]
        go_enter Try.func46, Try.ntmps46
        go_wp2_with fail
        refine (c19 _).mono ?_
        rintro e w' ⟨rfl, rfl⟩
        go_wp2_with fail
        refine (ct _).mono ?_
        rintro e w' ⟨rfl, rfl⟩
        go_wp2_with fail
        refine (cn _).mono ?_
        rintro e w' ⟨rfl, rfl⟩
        go_wp2
        go_ret
        exact ⟨rfl, hb0⟩
      | true =>
        rw [h3] at cn
        simp only [Bool.and_eq_true, decide_eq_true_eq] at h2
        obtain ⟨h2a, h2b⟩ := h2
        obtain ⟨hp1, hp2⟩ := hpr
        have c25 : ∀ W, Calls Try.prog 25 #[pools q t n] W (RetItems q t W) := fun W => refItems_any q t n W ⟨hp1, hp2⟩ ⟨h2a, by omega⟩
        clear h3
        by_cases h4 : q ^ t.toNat ≤ 1000
        · rw [decide_eq_true h4]
          simp only [Bool.and_self]
          go_enter Try.func46, Try.ntmps46
          go_wp2_with fail
          refine (c19 _).mono ?_
          rintro e w' ⟨rfl, rfl⟩
          go_wp2_with fail
          refine (ct _).mono ?_
          rintro e w' ⟨rfl, rfl⟩
          go_wp2_with fail
          refine (cn _).mono ?_
          rintro e w' ⟨rfl, rfl⟩
          go_wp2_with fail
          refine (c25 _).mono ?_
          rintro e w1 ⟨I, rfl, g1, g2, hb1⟩
          have e1 := g1 h4
          have hI : decide (I ≤ 1000) = true := decide_eq_true (by omega)
          have hbf := hb0.trans (hb1.mono (by simp))
          clear g1 g2 e1 c19 ct cn c25
          go_wp2
          go_ret
          exact ⟨rfl, hbf⟩
        · rw [decide_eq_false h4]
          simp only [Bool.and_false]
          go_enter Try.func46, Try.ntmps46
          go_wp2_with fail
          refine (c19 _).mono ?_
          rintro e w' ⟨rfl, rfl⟩
          go_wp2_with fail
          refine (ct _).mono ?_
          rintro e w' ⟨rfl, rfl⟩
          go_wp2_with fail
          refine (cn _).mono ?_
          rintro e w' ⟨rfl, rfl⟩
          go_wp2_with fail
          refine (c25 _).mono ?_
          rintro e w1 ⟨I, rfl, g1, g2, hb1⟩
          have e1 := g2 (by omega)
          have hI : decide (I ≤ 1000) = false := decide_eq_false (by omega)
          have hbf := hb0.trans (hb1.mono (by simp))
          clear g1 g2 e1 c19 ct cn c25
          go_wp2
          go_ret
          exact ⟨rfl, hbf⟩
end Go.Proofs.Ytneliejncfncdaa
