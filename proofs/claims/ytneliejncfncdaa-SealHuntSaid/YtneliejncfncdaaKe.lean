/- The law SealHunts: the walk. -/
import Derived.Test.YtneliejncfncdaaKd
import Derived.Test.YtneliejncfncdaaGc
import Derived.Test.YtneliejncfncdaaZ
import Derived.ChangeKeysEq
import Derived.Test.YtneliejncfncdaaFb
namespace Go.Proofs.Ytneliejncfncdaa
open Go.RowKit

theorem PSl.below {w w' : World} {v : Value} {n : Nat} {ts : List Int} (h : PSl w v n ts) (hb : Below w.heap.size w w') : PSl w' v n ts := by
  obtain ⟨A, c, hv, hA, hl, hm⟩ := h
  exact ⟨A, c, hv, hA.below hb, hl, hm⟩
theorem pairs_get {w : World} {A : Option Addr} {n : Nat} {ts : List Int} (h : At w A (ts.map (Value.int .i64))) (hl : ts.length = n * 2) {i : Nat} (hi : i < n) :
    ∃ b off, A = some ⟨b, off, none⟩ ∧ b < w.heap.size ∧ w.cell? ⟨b, off + i * 2, none⟩ = some (.int .i64 (ts.getD (i * 2) 0)) ∧ w.cell? ⟨b, off + i * 2 + 1, none⟩ = some (.int .i64 (ts.getD (i * 2 + 1) 0)) := by
  rcases h with h | ⟨b, off, hA, hlt, hc⟩
  · have : ts = [] := by simpa using h
    subst this
    simp at hl
    omega
  · refine ⟨b, off, hA, hlt, hc (i * 2) _ ?_, ?_⟩
    · simp [List.getD, show i * 2 < ts.length by omega]
    · have := hc (i * 2 + 1) (.int .i64 (ts.getD (i * 2 + 1) 0)) (by simp [List.getD, show i * 2 + 1 < ts.length by omega])
      rwa [← Nat.add_assoc] at this

set_option maxRecDepth 100000 in
theorem pair_eq (a b : Int) (W : World) : (Go.binOp .neq 48 (.agg #[.int .i64 a, .int .i64 b]) (.agg #[.int .i64 a, .int .i64 b])).run Try.prog W = .ok (.bool false) W := by
  have h1 : ∀ (x : Int) (W : World), (Op.equalIn 9999 3 (.int .i64 x) (.int .i64 x)).run Try.prog W = .ok true W := fun x W => by
    rw [show (9999 : Nat) = 9998 + 1 from rfl, run_equalIn_int W 9998 3 .i64 .i64 x x Try.underlying3]
    simp
  rw [run_neq_struct]
  obtain ⟨i0, hi0, _⟩ := info_parts Try.info3
  rw [show (10000 : Nat) = 9999 + 1 from rfl, run_equalIn_array W 9999 _ _ Try.underlying48 hi0]
  simp [Op.eqItems, part, Try.cells3, h1, List.range, List.range.loop]

theorem huntM_len (lk : List Int) (c f : Int) (ts fd : List Int) : f ≤ c → ((huntM lk c f ts fd).2.length : Int) ≤ fd.length + (c - f) := by
  intro hf
  rw [huntM]
  split
  · rename_i h
    split
    · have hs := srch_ge lk f (c - 1) (ts ++ [f, c - 1]) (by omega)
      have := huntM_len lk c ((srch lk f (c - 1) (ts ++ [f, c - 1])).1 + 1) (srch lk f (c - 1) (ts ++ [f, c - 1])).2 (fd ++ [(srch lk f (c - 1) (ts ++ [f, c - 1])).1]) (by omega)
      simp at this ⊢
      omega
    · simp; omega
  · simp; omega
termination_by (c - f).toNat
decreasing_by
  have := srch_ge lk f (c - 1) (ts ++ [f, c - 1]) (by omega)
  omega

section
variable (q : Int) (A : Option Addr) (c m : Nat) (p l : List Int) (w : World)

set_option maxRecDepth 100000 in
set_option maxHeartbeats 1600000 in
theorem hunts_bad (h17 : Calls Try.prog 17 #[.slice A m c, .int .i64 40] w (RetInts l w)) (hl : l.length ≤ 40) (h : q < 0 ∨ 1000 < q ∨ rsB q (-1) l = false) :
    Calls Try.prog 12 #[.int .i64 q, .slice A m c] w (Said true w) := by
  have c43 : ∀ W A c, Ints W A l → Calls Try.prog 43 #[.int .i64 q, .slice A l.length c] W (RetHunt [] [] 1 W) := fun W A c hI => Hunt_bad q A l.length c l W hI rfl (by omega) h
  by_cases h1 : q < 0
  · clear h
    go_enter Try.func12, Try.ntmps12
    go_wp2_with fail
    refine h17.mono ?_
    rintro e w1 ⟨v1, rfl, hs1, hb1⟩
    obtain ⟨A1, c1, rfl, hI⟩ := hs1.lieA rfl
    go_wp2_with fail
    refine (c43 _ _ _ hI).mono ?_
    rintro e w2 ⟨vt, vf, nt, rfl, ⟨A2, c2, rfl, _, hnt, _⟩, hs2, hb2⟩
    obtain ⟨A3, c3, rfl, _⟩ := hs2.lieA (n := 0) rfl
    obtain rfl : nt = 0 := by simp at hnt; omega
    have hbf := hb1.trans (hb2.mono hb1.size)
    go_wp2_with fail
    refine (lives_any _).mono ?_
    rintro e w3 ⟨rfl, hb3⟩
    go_wp2
    go_ret
    exact ⟨rfl, hbf.trans (hb3.mono hbf.size)⟩
  · by_cases h2 : 1000 < q
    · clear h
      have d1 : decide (q < 0) = false := decide_eq_false h1
      have d2 : decide (1000 < q) = true := decide_eq_true h2
      go_enter Try.func12, Try.ntmps12
      go_wp2_with fail
      refine h17.mono ?_
      rintro e w1 ⟨v1, rfl, hs1, hb1⟩
      obtain ⟨A1, c1, rfl, hI⟩ := hs1.lieA rfl
      go_wp2_with fail
      refine (c43 _ _ _ hI).mono ?_
      rintro e w2 ⟨vt, vf, nt, rfl, ⟨A2, c2, rfl, _, hnt, _⟩, hs2, hb2⟩
      obtain ⟨A3, c3, rfl, _⟩ := hs2.lieA (n := 0) rfl
      obtain rfl : nt = 0 := by simp at hnt; omega
      have hbf := hb1.trans (hb2.mono hb1.size)
      go_wp2_with fail
      refine (lives_any _).mono ?_
      rintro e w3 ⟨rfl, hb3⟩
      go_wp2
      go_ret
      exact ⟨rfl, hbf.trans (hb3.mono hbf.size)⟩
    · have hr : rsB q (-1) l = false := by
        rcases h with h | h | h
        · exact absurd h h1
        · exact absurd h h2
        · exact h
      have d1 : decide (q < 0) = false := decide_eq_false h1
      have d2 : decide (1000 < q) = false := decide_eq_false h2
      have c28 : ∀ W A c, Ints W A l → Calls Try.prog 28 #[.slice A l.length c, .int .i64 q] W fun e w' => e = .returned (.bool false) ∧ ∃ z, w' = W.drewN z := fun W A c hJ => by
        have := refRising_any A c l.length l q W hJ rfl (by omega) ⟨by omega, by omega⟩
        rwa [hr] at this
      clear h hr
      go_enter Try.func12, Try.ntmps12
      go_wp2_with fail
      refine h17.mono ?_
      rintro e w1 ⟨v1, rfl, hs1, hb1⟩
      obtain ⟨A1, c1, rfl, hI⟩ := hs1.lieA rfl
      go_wp2_with fail
      refine (c43 _ _ _ hI).mono ?_
      rintro e w2 ⟨vt, vf, nt, rfl, ⟨A2, c2, rfl, _, hnt, _⟩, hs2, hb2⟩
      obtain ⟨A3, c3, rfl, _⟩ := hs2.lieA (n := 0) rfl
      obtain rfl : nt = 0 := by simp at hnt; omega
      have hbf := hb1.trans (hb2.mono hb1.size)
      have hI2 := Ints.below hI hb2
      go_wp2_with fail
      refine (c28 _ _ _ hI2).mono ?_
      rintro e w3 ⟨rfl, z, rfl⟩
      go_wp2_with fail
      refine (lives_any _).mono ?_
      rintro e w4 ⟨rfl, hb4⟩
      go_wp2
      go_ret
      exact ⟨rfl, (hbf.drewN z).trans (hb4.mono (by simpa using hbf.size))⟩

set_option maxRecDepth 100000 in
set_option maxHeartbeats 1600000 in
theorem hunts_good (h17 : Calls Try.prog 17 #[.slice A m c, .int .i64 40] w (RetInts l w)) (hl : l.length ≤ 40) (hq1 : 0 ≤ q) (hq2 : q ≤ 1000) (hr : rsB q (-1) l = true) :
    Calls Try.prog 12 #[.int .i64 q, .slice A m c] w (Said true w) := by
  have d1 : decide (q < 0) = false := decide_eq_false (by omega)
  have d2 : decide (1000 < q) = false := decide_eq_false (by omega)
  have c28 : ∀ W A c, Ints W A l → Calls Try.prog 28 #[.slice A l.length c, .int .i64 q] W fun e w' => e = .returned (.bool true) ∧ ∃ z, w' = W.drewN z := fun W A c hJ => by
    have := refRising_any A c l.length l q W hJ rfl (by omega) ⟨by omega, by omega⟩
    rwa [hr] at this
  have c43 : ∀ W A c, Ints W A l → Calls Try.prog 43 #[.int .i64 q, .slice A l.length c] W (RetHunt (huntM l q 0 [] []).1 (huntM l q 0 [] []).2 0 W) := fun W A c hI => Hunt_good q A l.length c l W hI rfl (by omega) ⟨hq1, hq2⟩ hr
  have c44 : ∀ W A c, Ints W A l → Calls Try.prog 44 #[.int .i64 q, .slice A l.length c] W (RetHunt2 (huntM l q 0 [] []).1 (huntM l q 0 [] []).2 W) := fun W A c hI => refHunt_any q A l.length c l W hI rfl (by omega) ⟨hq1, hq2⟩
  have hfb := huntM_len l q 0 [] [] hq1
  clear hr
  generalize huntM l q 0 [] [] = R at *
  obtain ⟨ts, fd⟩ := R
  simp only [List.length_nil] at c43 c44 hfb
  have c23 : ∀ (W : World) A B c d, Ints W A fd → Ints W B fd → Calls Try.prog 23 #[.slice A fd.length c, .slice B fd.length d] W fun e w' => e = .returned (.bool true) ∧ ∃ z, w' = W.drewN z := fun W A B c d h1 h2 => by
    have := lawsame_any A B fd.length fd.length c d _ _ W h1 h2 rfl rfl (by omega) (by omega)
    simpa using this
  go_enter Try.func12, Try.ntmps12
  go_wp2_with fail
  refine h17.mono ?_
  rintro e w1 ⟨v1, rfl, hs1, hb1⟩
  obtain ⟨A1, c1, rfl, hI⟩ := hs1.lieA rfl
  go_wp2_with fail
  refine (c43 _ _ _ hI).mono ?_
  rintro e w2 ⟨vt, vf, nt, rfl, hp2, hs2, hb2⟩
  obtain ⟨A3, c3, rfl, hF2⟩ := hs2.lieA rfl
  have hB2 := hb1.trans (hb2.mono hb1.size)
  have hI2 := Ints.below hI hb2
  obtain ⟨A2, c2, rfl, _⟩ := id hp2
  go_wp2_with fail
  refine (c28 _ _ _ hI2).mono ?_
  rintro e w3 ⟨rfl, z, rfl⟩
  have hB3 := hB2.drewN z
  have hF3 := Ints.drewN hF2 z
  have hp3 : PSl (w2.drewN z) (.slice A2 nt c2) nt ts := hp2
  go_wp2_with fail
  refine (c44 _ _ _ (Ints.drewN hI2 z)).mono ?_
  rintro e w4 ⟨vt4, vf4, nt4, rfl, hp4, hs4, hb4⟩
  obtain ⟨A5, c5, rfl, hF4⟩ := hs4.lieA rfl
  have hB4 := hB3.trans (hb4.mono hB3.size)
  have hp34 := hp3.below hb4
  have hF34 := hF3.below hb4
  obtain ⟨A6, c6, rfl, hA6, hl6, hm6⟩ := hp4
  obtain ⟨A7, c7, hv7, hA7, hl7, _⟩ := hp34
  cases hv7
  obtain rfl : nt4 = nt := by omega
  clear hb1 hb2 hb4 hB2 hB3 hp2 hp3 hs1 hs2 hs4
  go_wp2_with fail
  refine (c23 _ _ _ _ _ hF34 hF4).mono ?_
  rintro e w5 ⟨rfl, z5, rfl⟩
  have hB5 := hB4.drewN z5
  go_wp2_with fail
  refine (lives_any _).mono ?_
  rintro e w6 ⟨rfl, hb6⟩
  have hB6 := hB5.trans (hb6.mono hB5.size)
  have hA6' : At w6 A6 (ts.map (Value.int .i64)) := At.below (w := w4.drewN z5) hA6 hb6
  have hA7' : At w6 A2 (ts.map (Value.int .i64)) := At.below (w := w4.drewN z5) hA7 hb6
  have HL := Lib.hid hl6
  unfold maxLen at hm6
  clear hA6 hA7 hl6 hl7 hb6 hB4 hB5 hF4 hF34 c23 c43 c44 c28
  go_wp2
  go_loopw [11] (fun i wr => ∃ k : Nat, k ≤ nt4 ∧ i = .int .i64 k ∧ ∃ nd, wr = w6.drewN nd) (fun i _ => nt4 - (intOf i).toNat)
  case atStart => exact ⟨0, by omega, rfl, 0, rfl⟩
  case round =>
    obtain ⟨k, hk, rfl, nd, rfl⟩ := hrel
    by_cases hlt : k < nt4
    · obtain ⟨b1, o1, rfl, hb1, e1, e2⟩ := pairs_get hA6' HL.out hlt
      obtain ⟨b2, o2, rfl, hb2, e3, e4⟩ := pairs_get hA7' HL.out hlt
      generalize ts.getD (k * 2) 0 = x at *
      generalize ts.getD (k * 2 + 1) 0 = y at *
      have hne := pair_eq x y
      go_wp2
      go_quiet (fail)
      go_wp2
      go_roundw
      case rel => exact ⟨k + 1, by omega, by go_num, _, rfl⟩
      case measure => simp [intOf]; omega
    · obtain rfl : k = nt4 := by omega
      go_wp2
      go_ret
      exact ⟨rfl, hB6.drewN _⟩

theorem hunts_any (_ : I64 q) (hA : Ints w A p) (hn : p.length = m) (hnc : m ≤ c) (hnil : A = none → c = 0) (_ : ∀ x ∈ p, I64 x) :
    Calls Try.prog 12 #[.int .i64 q, .slice A m c] w (Said true w) := by
  have h17 := cut_any A m c 40 40 p w hA hn hnc rfl (by omega) hnil
  have hl : (p.take 40).length ≤ 40 := by simp; omega
  generalize p.take 40 = l at *
  by_cases h1 : q < 0
  · exact hunts_bad q A c m l w h17 hl (.inl h1)
  · by_cases h2 : 1000 < q
    · exact hunts_bad q A c m l w h17 hl (.inr (.inl h2))
    · cases hr : rsB q (-1) l with
      | false => exact hunts_bad q A c m l w h17 hl (.inr (.inr hr))
      | true => exact hunts_good q A c m l w h17 hl (by omega) (by omega) hr
end
end Go.Proofs.Ytneliejncfncdaa
