/- ref.sum, ref.first, ref.Better (printed by genjc.py). -/
import Derived.Test.YtklngjjokbhfpaaGreatJa
import Derived.Test.YtklngjjokbhfpaaGreatLz
namespace Go.Proofs.YtklngjjokbhfpaaGreat
open Go.RowKit

set_option maxRecDepth 100000 in
set_option maxHeartbeats 800000 in
theorem rsum_any (A : Option Addr) (n c : Nat) (xs : List Int) (w : World) (h : Ints .i64 w A xs) (hn : xs.length = n) (h8 : n ≤ 400) (hb : ∀ x ∈ xs, 1 ≤ x ∧ x ≤ 200) :
    Calls Tryz.prog 66 #[.slice A n c] w fun e w' => e = .returned (.int .i64 (sumL xs)) ∧ w = w' := by
  have HN := Lib.hid hn
  have HB := Lib.hid hb
  clear hn hb
  go_enter Tryz.func66, Tryz.ntmps66
  go_wp2
  go_loopw [3, 4] (fun p i wr => ∃ k : Nat, k ≤ n ∧ p = .int .i64 (sumL (xs.take k)) ∧ i = .int .i64 k ∧ w = wr) (fun _ i _ => n - (intOf i).toNat)
  case atStart => exact ⟨0, Nat.zero_le _, rfl, rfl, rfl⟩
  case round =>
    obtain ⟨k, hk, rfl, rfl, rfl⟩ := hrel
    by_cases hlt : k < n
    · have hlt' : k < xs.length := by rw [HN.out]; exact hlt
      obtain ⟨b1, o1, rfl, hl1, hc1⟩ := h.get hlt'
      have ht : xs.take (k + 1) = xs.take k ++ [xs[k]] := by simp
      have hx := HB.out xs[k] (List.getElem_mem _)
      have hp := sumL_bound (xs.take k) (fun x hx => HB.out x (List.mem_of_mem_take hx))
      have hlen : ((xs.take k).length : Int) ≤ 400 := by simp; omega
      have hps := sumL_snoc (xs.take k) xs[k]
      have i1 : (0 : Int) ≤ (k : Int) := by omega
      have i2 : (k : Int) < (n : Int) := by omega
      have u1 : -9223372036854775808 ≤ sumL (xs.take k) + xs[k] := by omega
      have u2 : sumL (xs.take k) + xs[k] ≤ 9223372036854775807 := by omega
      have HT := Lib.hid ht
      have HPS := Lib.hid hps
      clear ht hps hp hx hlen
      generalize sumL (xs.take k) = P at *
      generalize xs[k] = x at *
      go_wp2
      go_roundw
      case rel => exact ⟨k + 1, by omega, by rw [HT.out, HPS.out], by go_num, by trivial⟩
      case measure => simp [intOf]; omega
    · have hkn : k = n := by omega
      have ht : xs.take k = xs := by rw [List.take_of_length_le (by rw [HN.out]; omega)]
      rw [ht]
      clear ht
      go_wp2
      go_ret
      exact ⟨rfl, rfl⟩

/-- The first difference. -/
def firstL : List Int → List Int → Int
  | x :: r, y :: s => if x = y then firstL r s else x - y
  | _, _ => 0
theorem firstL_step {xs ys : List Int} {k : Nat} (h1 : k < xs.length) (h2 : k < ys.length) : firstL (xs.drop k) (ys.drop k) = if xs[k] = ys[k] then firstL (xs.drop (k + 1)) (ys.drop (k + 1)) else xs[k] - ys[k] := by
  rw [List.drop_eq_getElem_cons h1, List.drop_eq_getElem_cons h2]; rfl
theorem firstL_cmp : ∀ {a b : List Int}, a.length = b.length → sgn (firstL a b) = cmpL a b
  | [], [], _ => by simp [firstL, cmpL, sgn]
  | [], _ :: _, h => by simp at h
  | _ :: _, [], h => by simp at h
  | x :: r, y :: s, h => by
    simp only [firstL, cmpL]
    by_cases e : x = y
    · rw [if_pos e, if_pos (sgn_eq0.2 (by omega))]; exact firstL_cmp (by simpa using h)
    · rw [if_neg e, if_neg (fun g => e (by have := sgn_eq0.1 g; omega))]
theorem firstL_bd : ∀ {a b : List Int}, (∀ x ∈ a, 1 ≤ x ∧ x ≤ 200) → (∀ x ∈ b, 1 ≤ x ∧ x ≤ 200) → -200 ≤ firstL a b ∧ firstL a b ≤ 200
  | [], _, _, _ => by simp [firstL]
  | _ :: _, [], _, _ => by simp [firstL]
  | x :: r, y :: s, h1, h2 => by
    simp only [firstL]
    split
    · exact firstL_bd (fun z hz => h1 z (by simp [hz])) (fun z hz => h2 z (by simp [hz]))
    · have := h1 x (by simp); have := h2 y (by simp); omega

set_option maxRecDepth 100000 in
set_option maxHeartbeats 1600000 in
theorem rfirst_any (A B : Option Addr) (n c m d : Nat) (xs ys : List Int) (w : World) (hA : Ints .i64 w A xs) (hB : Ints .i64 w B ys) (hn : xs.length = n) (hm : ys.length = m) (hx1 : ∀ x ∈ xs, 1 ≤ x ∧ x ≤ 200) (hy1 : ∀ y ∈ ys, 1 ≤ y ∧ y ≤ 200) (hb : n ≤ 1000) (hb2 : m ≤ 1000) :
    Calls Tryz.prog 67 #[.slice A n c, .slice B m d] w (RetV (.int .i64 (firstL xs ys)) w) := by
  have HN := Lib.hid hn
  have HM := Lib.hid hm
  have HX := Lib.hid hx1
  have HY := Lib.hid hy1
  clear hn hm hx1 hy1
  go_enter Tryz.func67, Tryz.ntmps67
  go_wp2
  go_loopw [5] (fun i wr => ∃ k : Nat, k ≤ n ∧ k ≤ m ∧ i = .int .i64 k ∧ firstL xs ys = firstL (xs.drop k) (ys.drop k) ∧ ∃ z, wr = w.drewN z) (fun i _ => n - (intOf i).toNat)
  case atStart => exact ⟨0, Nat.zero_le _, Nat.zero_le _, rfl, rfl, 0, rfl⟩
  case round =>
    obtain ⟨k, hk, hkm, rfl, hall, z, rfl⟩ := hrel
    have HALL := Lib.hid hall
    clear hall
    by_cases hlt : k < n
    · by_cases hlm : k < m
      · have h1 : k < xs.length := by rw [HN.out]; exact hlt
        have h2 : k < ys.length := by rw [HM.out]; exact hlm
        obtain ⟨b1, o1, rfl, hl1, hc1⟩ := hA.get h1
        obtain ⟨b2, o2, rfl, hl2, hc2⟩ := hB.get h2
        have i1 : (0 : Int) ≤ (k : Int) := by omega
        have i2 : (k : Int) < (n : Int) := by omega
        have i3 : (k : Int) < (m : Int) := by omega
        have HST := Lib.hid (HALL.out.trans (firstL_step h1 h2))
        have u1 : -9223372036854775808 ≤ xs[k] - ys[k] := by have := HX.out _ (List.getElem_mem h1); have := HY.out _ (List.getElem_mem h2); omega
        have u2 : xs[k] - ys[k] ≤ 9223372036854775807 := by have := HX.out _ (List.getElem_mem h1); have := HY.out _ (List.getElem_mem h2); omega
        generalize xs[k] = x at *
        generalize ys[k] = y at *
        clear h1 h2 HALL
        by_cases hxy : x = y
        · have HS := Lib.hid (HST.out.trans (if_pos hxy))
          have b0 : (x != y) = false := by simp [hxy]
          clear hxy u1 u2 HST
          go_wp2
          go_quiet (fail)
          go_wp2
          go_roundw
          case rel => exact ⟨k + 1, by omega, by omega, by go_num, HS.out, _, rfl⟩
          case measure => simp [intOf]; omega
        · have HS := Lib.hid (HST.out.trans (if_neg hxy))
          have b0 : (x != y) = true := by simp [hxy]
          clear hxy HST
          go_wp2
          go_quiet (fail)
          go_wp2
          go_quiet (fail)
          go_wp2
          go_ret
          exact ⟨by rw [HS.out]; rfl, (((Below.refl _ _).drewN _).drewN _).drewN _⟩
      · have HS := Lib.hid (show firstL xs ys = 0 by
          rw [HALL.out, show ys.drop k = [] from List.drop_eq_nil_of_le (by rw [HM.out]; omega)]
          cases xs.drop k <;> rfl)
        go_wp2
        go_ret
        exact ⟨by rw [HS.out]; rfl, (Below.refl _ _).drewN _⟩
    · have HS := Lib.hid (show firstL xs ys = 0 by
        rw [HALL.out, show xs.drop k = [] from List.drop_eq_nil_of_le (by rw [HN.out]; omega)]
        rfl)
      go_wp2
      go_ret
      exact ⟨by rw [HS.out]; rfl, (Below.refl _ _).drewN _⟩

set_option maxRecDepth 100000 in
set_option maxHeartbeats 1600000 in
theorem rbetter_len (A1 : Option Addr) (n1 c1 : Nat) (A2 : Option Addr) (c2 : Nat) (A3 : Option Addr) (n3 c3 : Nat) (A4 : Option Addr) (c4 : Nat) (ws ps us vs : List Int) (b : Bool × Unit) (w : World) (h1 : Ints .i64 w A1 ws) (h2 : Ints .i64 w A2 ps) (h3 : Ints .i64 w A3 us) (h4 : Ints .i64 w A4 vs) (l1 : ws.length = n1) (l2 : ps.length = n1) (l3 : us.length = n3) (l4 : vs.length = n3) (m1 : n1 ≤ 12) (m3 : n3 ≤ 12) (b1 : ∀ x ∈ ws, 1 ≤ x ∧ x ≤ 200) (b2 : ∀ x ∈ ps, 1 ≤ x ∧ x ≤ 200) (b3 : ∀ x ∈ us, 1 ≤ x ∧ x ≤ 200) (b4 : ∀ x ∈ vs, 1 ≤ x ∧ x ≤ 200) (hb : decide (betterM ws ps us vs < 0) = b.1) (hc : n1 ≠ n3) :
    Calls Tryz.prog 23 #[.agg #[.slice A1 n1 c1, .slice A2 n1 c2], .agg #[.slice A3 n3 c3, .slice A4 n3 c4]] w (RetV (.bool b.1) w) := by
  have HB := Lib.hid (show decide (n1 < n3) = b.1 by
    rw [← hb]
    refine decide_eq_decide.2 ?_
    rw [betterM_lt, l1, l3]
    constructor
    · intro g; exact .inl (by omega)
    · rintro (g | ⟨g, _⟩)
      · omega
      · exact absurd g hc)
  have e1 : ((n1 : Int) != (n3 : Int)) = true := by simp; omega
  clear hb h1 h2 h3 h4 l1 l2 l3 l4 b1 b2 b3 b4 hc
  obtain ⟨W3, hW3⟩ : ∃ W3, W3 = ((w.alloc (.cells #[.slice A1 n1 c1, .slice A2 n1 c2] 24)).alloc (.cells #[.slice A3 n3 c3, .slice A4 n3 c4] 24)) := ⟨_, rfl⟩
  have hB : Below w.heap.size w W3 := by rw [hW3]; exact (((Below.refl _ _).alloc (Nat.le_refl _) _).alloc (by simp; try omega) _)
  have HBW := Lib.hid hB
  have HF := Lib.hid (show Two W3 (w.heap.size) (.slice A1 n1 c1) (.slice A2 n1 c2) 24 by rw [hW3]; exact (((Two.newAt _ _ _ _ _ (by simp))).alloc _))
  have HG := Lib.hid (show Two W3 (w.heap.size + 1) (.slice A3 n3 c3) (.slice A4 n3 c4) 24 by rw [hW3]; exact (Two.newAt _ _ _ _ _ (by simp)))
  clear hB
  go_enter Tryz.func23, Tryz.ntmps23
  go_upto_region 1 with fail
  rw [← hW3]
  clear hW3
  have k0 := HF.out.cell0
  have k1 := HG.out.cell0
  go_wp2
  go_ret
  exact ⟨by rw [← HB.out]; rfl, HBW.out⟩

set_option maxRecDepth 100000 in
set_option maxHeartbeats 6400000 in
theorem rbetter_sum (A1 : Option Addr) (n1 c1 : Nat) (A2 : Option Addr) (c2 : Nat) (A3 : Option Addr) (n3 c3 : Nat) (A4 : Option Addr) (c4 : Nat) (ws ps us vs : List Int) (b : Bool × Unit) (w : World) (h1 : Ints .i64 w A1 ws) (h2 : Ints .i64 w A2 ps) (h3 : Ints .i64 w A3 us) (h4 : Ints .i64 w A4 vs) (l1 : ws.length = n1) (l2 : ps.length = n1) (l3 : us.length = n3) (l4 : vs.length = n3) (m1 : n1 ≤ 12) (m3 : n3 ≤ 12) (b1 : ∀ x ∈ ws, 1 ≤ x ∧ x ≤ 200) (b2 : ∀ x ∈ ps, 1 ≤ x ∧ x ≤ 200) (b3 : ∀ x ∈ us, 1 ≤ x ∧ x ≤ 200) (b4 : ∀ x ∈ vs, 1 ≤ x ∧ x ≤ 200) (hb : decide (betterM ws ps us vs < 0) = b.1) (hq : n1 = n3) (hc : sumL (ws ++ ps) ≠ sumL (us ++ vs)) :
    Calls Tryz.prog 23 #[.agg #[.slice A1 n1 c1, .slice A2 n1 c2], .agg #[.slice A3 n3 c3, .slice A4 n3 c4]] w (RetV (.bool b.1) w) := by
  obtain ⟨S1, hS1⟩ : ∃ S1, S1 = sumL ws := ⟨_, rfl⟩
  obtain ⟨S2, hS2⟩ : ∃ S2, S2 = sumL ps := ⟨_, rfl⟩
  obtain ⟨S3, hS3⟩ : ∃ S3, S3 = sumL us := ⟨_, rfl⟩
  obtain ⟨S4, hS4⟩ : ∃ S4, S4 = sumL vs := ⟨_, rfl⟩
  have HS := Lib.hid (show (0 ≤ S1 ∧ S1 ≤ 2400) ∧ (0 ≤ S2 ∧ S2 ≤ 2400) ∧ (0 ≤ S3 ∧ S3 ≤ 2400) ∧ (0 ≤ S4 ∧ S4 ≤ 2400) by
    have := sumL_bound ws b1; have := sumL_bound ps b2; have := sumL_bound us b3; have := sumL_bound vs b4
    rw [l1] at *; rw [l2] at *; rw [l3] at *; rw [l4] at *
    omega)
  have hsw : sumL (ws ++ ps) = S1 + S2 := by rw [hS1, hS2]; unfold sumL; rw [List.foldl_append, foldl_add]; rfl
  have hsu : sumL (us ++ vs) = S3 + S4 := by rw [hS3, hS4]; unfold sumL; rw [List.foldl_append, foldl_add]; rfl
  have HB := Lib.hid (show decide (S1 + S2 < S3 + S4) = b.1 by
    rw [← hb]
    exact decide_eq_decide.2 (by
      rw [betterM_lt, l1, l3, hsw, hsu]
      rw [hsw, hsu] at hc
      constructor
      · intro g; exact .inr ⟨hq, .inl g⟩
      · rintro (g | ⟨_, g | ⟨g, _⟩⟩)
        · omega
        · exact g
        · exact absurd g hc))
  have cs1 : ∀ W (_ : Below w.heap.size w W), Calls Tryz.prog 66 #[.slice A1 n1 c1] W (RetW (.int .i64 S1) W) := fun W hw => by rw [hS1]; exact (rsum_any A1 n1 c1 ws W (h1.below hw) l1 (by omega) b1).mono fun e w' h => RetW.of ⟨h.1, by rw [← h.2]; exact Below.refl _ _⟩
  have cs2 : ∀ W (_ : Below w.heap.size w W), Calls Tryz.prog 66 #[.slice A2 n1 c2] W (RetW (.int .i64 S2) W) := fun W hw => by rw [hS2]; exact (rsum_any A2 n1 c2 ps W (h2.below hw) l2 (by omega) b2).mono fun e w' h => RetW.of ⟨h.1, by rw [← h.2]; exact Below.refl _ _⟩
  have cs3 : ∀ W (_ : Below w.heap.size w W), Calls Tryz.prog 66 #[.slice A3 n3 c3] W (RetW (.int .i64 S3) W) := fun W hw => by rw [hS3]; exact (rsum_any A3 n3 c3 us W (h3.below hw) l3 (by omega) b3).mono fun e w' h => RetW.of ⟨h.1, by rw [← h.2]; exact Below.refl _ _⟩
  have cs4 : ∀ W (_ : Below w.heap.size w W), Calls Tryz.prog 66 #[.slice A4 n3 c4] W (RetW (.int .i64 S4) W) := fun W hw => by rw [hS4]; exact (rsum_any A4 n3 c4 vs W (h4.below hw) l4 (by omega) b4).mono fun e w' h => RetW.of ⟨h.1, by rw [← h.2]; exact Below.refl _ _⟩
  have e1 : ((n1 : Int) != (n3 : Int)) = false := by simp; omega
  have e2 : ((S1 + S2 : Int) != (S3 + S4)) = true := by rw [hsw, hsu] at hc; simp; exact hc
  clear hb h1 h2 h3 h4 l1 l2 l3 l4 b1 b2 b3 b4 hc hq hsw hsu hS1 hS2 hS3 hS4
  obtain ⟨W3, hW3⟩ : ∃ W3, W3 = ((w.alloc (.cells #[.slice A1 n1 c1, .slice A2 n1 c2] 24)).alloc (.cells #[.slice A3 n3 c3, .slice A4 n3 c4] 24)) := ⟨_, rfl⟩
  have hB : Below w.heap.size w W3 := by rw [hW3]; exact (((Below.refl _ _).alloc (Nat.le_refl _) _).alloc (by simp; try omega) _)
  have HBW := Lib.hid hB
  have HF := Lib.hid (show Two W3 (w.heap.size) (.slice A1 n1 c1) (.slice A2 n1 c2) 24 by rw [hW3]; exact (((Two.newAt _ _ _ _ _ (by simp))).alloc _))
  have HG := Lib.hid (show Two W3 (w.heap.size + 1) (.slice A3 n3 c3) (.slice A4 n3 c4) 24 by rw [hW3]; exact (Two.newAt _ _ _ _ _ (by simp)))
  clear hB
  go_enter Tryz.func23, Tryz.ntmps23
  go_upto_region 1 with fail
  rw [← hW3]
  clear hW3
  have HE1 := Lib.hid e1
  have HE2 := Lib.hid e2
  have k0 := HF.out.cell0
  have k1 := HG.out.cell0
  go_upto_region 3 with fail
  clear k0 k1
  obtain ⟨u1, u2, u3, u4⟩ : -9223372036854775808 ≤ S1 + S2 ∧ S1 + S2 ≤ 9223372036854775807 ∧ -9223372036854775808 ≤ S3 + S4 ∧ S3 + S4 ≤ 9223372036854775807 := by have := HS.out; omega
  refine Lex.wp_region_lex (fun w' => Two w' w.heap.size (.slice A1 n1 c1) (.slice A2 n1 c2) 24 ∧ Two w' (w.heap.size + 1) (.slice A3 n3 c3) (.slice A4 n3 c4) 24) (fun _ => true)
    [(0, true), (1, true), (3, true), (4, true), (7, true), (8, true), (10, true), (11, true), (2, false), (5, false), (6, true), (9, false), (12, false), (13, false), (14, false)]
    (by kernel_rfl) (by kernel_rfl) (by kernel_rfl) (by kernel_rfl) ⟨HF.out, HG.out⟩ ?_
  have hb10 : Below W3.heap.size W3 W3.drew := ⟨rfl, rfl, rfl, Nat.le_refl _, fun _ _ => rfl⟩
  have hw10 : Below w.heap.size w W3.drew := ⟨HBW.out.os, HBW.out.tape, HBW.out.output, HBW.out.size, HBW.out.block⟩
  generalize hV0 : W3.drew = V10 at *
  clear hV0
  refine Lex.lex_take (v := ?_) rfl rfl (by rfl) (fun _ hS => ?_) ?_; rotate_left 1; (focus (have g0_0 := hS.1.cell0; have g0_1 := hS.1.cell1; have g1_0 := hS.2.cell0; have g1_1 := hS.2.cell1; clear hS; go_simp; with_reducible rfl)); simp only [List.setIfInBounds_toArray, List.set_cons_zero, List.set_cons_succ]
  refine Lex.lex_take (v := ?_) rfl rfl (by rfl) (fun _ hS => ?_) ?_; rotate_left 1; (focus (have g0_0 := hS.1.cell0; have g0_1 := hS.1.cell1; have g1_0 := hS.2.cell0; have g1_1 := hS.2.cell1; clear hS; go_simp; with_reducible rfl)); simp only [List.setIfInBounds_toArray, List.set_cons_zero, List.set_cons_succ]
  refine Lex.lex_take (v := ?_) rfl rfl (by rfl) (fun _ hS => ?_) ?_; rotate_left 1; (focus (have g0_0 := hS.1.cell0; have g0_1 := hS.1.cell1; have g1_0 := hS.2.cell0; have g1_1 := hS.2.cell1; clear hS; go_simp; with_reducible rfl)); simp only [List.setIfInBounds_toArray, List.set_cons_zero, List.set_cons_succ]
  refine Lex.lex_take (v := ?_) rfl rfl (by rfl) (fun _ hS => ?_) ?_; rotate_left 1; (focus (have g0_0 := hS.1.cell0; have g0_1 := hS.1.cell1; have g1_0 := hS.2.cell0; have g1_1 := hS.2.cell1; clear hS; go_simp; with_reducible rfl)); simp only [List.setIfInBounds_toArray, List.set_cons_zero, List.set_cons_succ]
  refine Lex.lex_take (v := ?_) rfl rfl (by rfl) (fun _ hS => ?_) ?_; rotate_left 1; (focus (have g0_0 := hS.1.cell0; have g0_1 := hS.1.cell1; have g1_0 := hS.2.cell0; have g1_1 := hS.2.cell1; clear hS; go_simp; with_reducible rfl)); simp only [List.setIfInBounds_toArray, List.set_cons_zero, List.set_cons_succ]
  refine Lex.lex_take (v := ?_) rfl rfl (by rfl) (fun _ hS => ?_) ?_; rotate_left 1; (focus (have g0_0 := hS.1.cell0; have g0_1 := hS.1.cell1; have g1_0 := hS.2.cell0; have g1_1 := hS.2.cell1; clear hS; go_simp; with_reducible rfl)); simp only [List.setIfInBounds_toArray, List.set_cons_zero, List.set_cons_succ]
  refine Lex.lex_take (v := ?_) rfl rfl (by rfl) (fun _ hS => ?_) ?_; rotate_left 1; (focus (have g0_0 := hS.1.cell0; have g0_1 := hS.1.cell1; have g1_0 := hS.2.cell0; have g1_1 := hS.2.cell1; clear hS; go_simp; with_reducible rfl)); simp only [List.setIfInBounds_toArray, List.set_cons_zero, List.set_cons_succ]
  refine Lex.lex_take (v := ?_) rfl rfl (by rfl) (fun _ hS => ?_) ?_; rotate_left 1; (focus (have g0_0 := hS.1.cell0; have g0_1 := hS.1.cell1; have g1_0 := hS.2.cell0; have g1_1 := hS.2.cell1; clear hS; go_simp; with_reducible rfl)); simp only [List.setIfInBounds_toArray, List.set_cons_zero, List.set_cons_succ]
  refine Lex.lex_do rfl ?_
  have cc := cs1 V10 hw10
  go_wp2_with fail
  refine cc.mono ?_
  rintro e V11 ⟨v11, rfl, hm11, hn11⟩
  have hb11 := hb10.trans (hn11.mono hb10.size)
  have hw11 := hw10.trans (hn11.mono hw10.size)
  subst hm11
  clear cc hb10 hw10 hn11
  go_wp2_with fail
  refine Lex.lexQ_normal (fun _ => ⟨HF.out.below hb11 HF.out.lt, HG.out.below hb11 HG.out.lt⟩) ?_
  refine Lex.lex_do rfl ?_
  have cc := cs2 V11 hw11
  go_wp2_with fail
  refine cc.mono ?_
  rintro e V12 ⟨v12, rfl, hm12, hn12⟩
  have hb12 := hb11.trans (hn12.mono hb11.size)
  have hw12 := hw11.trans (hn12.mono hw11.size)
  subst hm12
  clear cc hb11 hw11 hn12
  go_wp2_with fail
  refine Lex.lexQ_normal (fun _ => ⟨HF.out.below hb12 HF.out.lt, HG.out.below hb12 HG.out.lt⟩) ?_
  refine Lex.lex_take (v := ?_) rfl rfl (by rfl) (fun _ hS => ?_) ?_; rotate_left 1; (focus (have g0_0 := hS.1.cell0; have g0_1 := hS.1.cell1; have g1_0 := hS.2.cell0; have g1_1 := hS.2.cell1; clear hS; go_simp; with_reducible rfl)); simp only [List.setIfInBounds_toArray, List.set_cons_zero, List.set_cons_succ]
  refine Lex.lex_do rfl ?_
  have cc := cs3 V12 hw12
  go_wp2_with fail
  refine cc.mono ?_
  rintro e V13 ⟨v13, rfl, hm13, hn13⟩
  have hb13 := hb12.trans (hn13.mono hb12.size)
  have hw13 := hw12.trans (hn13.mono hw12.size)
  subst hm13
  clear cc hb12 hw12 hn13
  go_wp2_with fail
  refine Lex.lexQ_normal (fun _ => ⟨HF.out.below hb13 HF.out.lt, HG.out.below hb13 HG.out.lt⟩) ?_
  refine Lex.lex_do rfl ?_
  have cc := cs4 V13 hw13
  go_wp2_with fail
  refine cc.mono ?_
  rintro e V14 ⟨v14, rfl, hm14, hn14⟩
  have hb14 := hb13.trans (hn14.mono hb13.size)
  have hw14 := hw13.trans (hn14.mono hw13.size)
  subst hm14
  clear cc hb13 hw13 hn14
  go_wp2_with fail
  refine Lex.lexQ_normal (fun _ => ⟨HF.out.below hb14 HF.out.lt, HG.out.below hb14 HG.out.lt⟩) ?_
  refine Lex.lex_do rfl ?_
  go_wp2_with fail
  refine Lex.lexQ_normal (fun _ => ⟨HF.out.below hb14 HF.out.lt, HG.out.below hb14 HG.out.lt⟩) ?_
  refine Lex.lex_do rfl ?_
  go_wp2_with fail
  refine Lex.lexQ_normal (fun _ => ⟨HF.out.below hb14 HF.out.lt, HG.out.below hb14 HG.out.lt⟩) ?_
  refine Lex.lex_nil ?_
  have F2_a := Lib.hid (HF.out.below hb14 HF.out.lt)
  have F2_b := Lib.hid (HG.out.below hb14 HG.out.lt)
  have B2_ := Lib.hid hw14
  clear hb14 hw14 HF HG HBW
  go_upto_region 4 with fail
  refine Lex.wp_region_lex (fun w' => Two w' w.heap.size (.slice A1 n1 c1) (.slice A2 n1 c2) 24 ∧ Two w' (w.heap.size + 1) (.slice A3 n3 c3) (.slice A4 n3 c4) 24) (fun _ => true)
    [(0, true), (1, true), (3, true), (4, true), (7, true), (8, true), (10, true), (11, true), (2, false), (5, false), (6, true), (9, false), (12, false), (13, false), (14, false), (15, false)]
    (by kernel_rfl) (by kernel_rfl) (by kernel_rfl) (by kernel_rfl) ⟨F2_a.out, F2_b.out⟩ ?_
  have hb30 : Below V14.heap.size V14 V14.drew := ⟨rfl, rfl, rfl, Nat.le_refl _, fun _ _ => rfl⟩
  have hw30 : Below w.heap.size w V14.drew := ⟨B2_.out.os, B2_.out.tape, B2_.out.output, B2_.out.size, B2_.out.block⟩
  generalize hV0 : V14.drew = V30 at *
  clear hV0
  refine Lex.lex_take (v := ?_) rfl rfl (by rfl) (fun _ hS => ?_) ?_; rotate_left 1; (focus (have g0_0 := hS.1.cell0; have g0_1 := hS.1.cell1; have g1_0 := hS.2.cell0; have g1_1 := hS.2.cell1; clear hS; go_simp; with_reducible rfl)); simp only [List.setIfInBounds_toArray, List.set_cons_zero, List.set_cons_succ]
  refine Lex.lex_take (v := ?_) rfl rfl (by rfl) (fun _ hS => ?_) ?_; rotate_left 1; (focus (have g0_0 := hS.1.cell0; have g0_1 := hS.1.cell1; have g1_0 := hS.2.cell0; have g1_1 := hS.2.cell1; clear hS; go_simp; with_reducible rfl)); simp only [List.setIfInBounds_toArray, List.set_cons_zero, List.set_cons_succ]
  refine Lex.lex_take (v := ?_) rfl rfl (by rfl) (fun _ hS => ?_) ?_; rotate_left 1; (focus (have g0_0 := hS.1.cell0; have g0_1 := hS.1.cell1; have g1_0 := hS.2.cell0; have g1_1 := hS.2.cell1; clear hS; go_simp; with_reducible rfl)); simp only [List.setIfInBounds_toArray, List.set_cons_zero, List.set_cons_succ]
  refine Lex.lex_take (v := ?_) rfl rfl (by rfl) (fun _ hS => ?_) ?_; rotate_left 1; (focus (have g0_0 := hS.1.cell0; have g0_1 := hS.1.cell1; have g1_0 := hS.2.cell0; have g1_1 := hS.2.cell1; clear hS; go_simp; with_reducible rfl)); simp only [List.setIfInBounds_toArray, List.set_cons_zero, List.set_cons_succ]
  refine Lex.lex_take (v := ?_) rfl rfl (by rfl) (fun _ hS => ?_) ?_; rotate_left 1; (focus (have g0_0 := hS.1.cell0; have g0_1 := hS.1.cell1; have g1_0 := hS.2.cell0; have g1_1 := hS.2.cell1; clear hS; go_simp; with_reducible rfl)); simp only [List.setIfInBounds_toArray, List.set_cons_zero, List.set_cons_succ]
  refine Lex.lex_take (v := ?_) rfl rfl (by rfl) (fun _ hS => ?_) ?_; rotate_left 1; (focus (have g0_0 := hS.1.cell0; have g0_1 := hS.1.cell1; have g1_0 := hS.2.cell0; have g1_1 := hS.2.cell1; clear hS; go_simp; with_reducible rfl)); simp only [List.setIfInBounds_toArray, List.set_cons_zero, List.set_cons_succ]
  refine Lex.lex_take (v := ?_) rfl rfl (by rfl) (fun _ hS => ?_) ?_; rotate_left 1; (focus (have g0_0 := hS.1.cell0; have g0_1 := hS.1.cell1; have g1_0 := hS.2.cell0; have g1_1 := hS.2.cell1; clear hS; go_simp; with_reducible rfl)); simp only [List.setIfInBounds_toArray, List.set_cons_zero, List.set_cons_succ]
  refine Lex.lex_take (v := ?_) rfl rfl (by rfl) (fun _ hS => ?_) ?_; rotate_left 1; (focus (have g0_0 := hS.1.cell0; have g0_1 := hS.1.cell1; have g1_0 := hS.2.cell0; have g1_1 := hS.2.cell1; clear hS; go_simp; with_reducible rfl)); simp only [List.setIfInBounds_toArray, List.set_cons_zero, List.set_cons_succ]
  refine Lex.lex_do rfl ?_
  have cc := cs1 V30 hw30
  go_wp2_with fail
  refine cc.mono ?_
  rintro e V31 ⟨v31, rfl, hm31, hn31⟩
  have hb31 := hb30.trans (hn31.mono hb30.size)
  have hw31 := hw30.trans (hn31.mono hw30.size)
  subst hm31
  clear cc hb30 hw30 hn31
  go_wp2_with fail
  refine Lex.lexQ_normal (fun _ => ⟨F2_a.out.below hb31 F2_a.out.lt, F2_b.out.below hb31 F2_b.out.lt⟩) ?_
  refine Lex.lex_do rfl ?_
  have cc := cs2 V31 hw31
  go_wp2_with fail
  refine cc.mono ?_
  rintro e V32 ⟨v32, rfl, hm32, hn32⟩
  have hb32 := hb31.trans (hn32.mono hb31.size)
  have hw32 := hw31.trans (hn32.mono hw31.size)
  subst hm32
  clear cc hb31 hw31 hn32
  go_wp2_with fail
  refine Lex.lexQ_normal (fun _ => ⟨F2_a.out.below hb32 F2_a.out.lt, F2_b.out.below hb32 F2_b.out.lt⟩) ?_
  refine Lex.lex_take (v := ?_) rfl rfl (by rfl) (fun _ hS => ?_) ?_; rotate_left 1; (focus (have g0_0 := hS.1.cell0; have g0_1 := hS.1.cell1; have g1_0 := hS.2.cell0; have g1_1 := hS.2.cell1; clear hS; go_simp; with_reducible rfl)); simp only [List.setIfInBounds_toArray, List.set_cons_zero, List.set_cons_succ]
  refine Lex.lex_do rfl ?_
  have cc := cs3 V32 hw32
  go_wp2_with fail
  refine cc.mono ?_
  rintro e V33 ⟨v33, rfl, hm33, hn33⟩
  have hb33 := hb32.trans (hn33.mono hb32.size)
  have hw33 := hw32.trans (hn33.mono hw32.size)
  subst hm33
  clear cc hb32 hw32 hn33
  go_wp2_with fail
  refine Lex.lexQ_normal (fun _ => ⟨F2_a.out.below hb33 F2_a.out.lt, F2_b.out.below hb33 F2_b.out.lt⟩) ?_
  refine Lex.lex_do rfl ?_
  have cc := cs4 V33 hw33
  go_wp2_with fail
  refine cc.mono ?_
  rintro e V34 ⟨v34, rfl, hm34, hn34⟩
  have hb34 := hb33.trans (hn34.mono hb33.size)
  have hw34 := hw33.trans (hn34.mono hw33.size)
  subst hm34
  clear cc hb33 hw33 hn34
  go_wp2_with fail
  refine Lex.lexQ_normal (fun _ => ⟨F2_a.out.below hb34 F2_a.out.lt, F2_b.out.below hb34 F2_b.out.lt⟩) ?_
  refine Lex.lex_do rfl ?_
  go_wp2_with fail
  refine Lex.lexQ_normal (fun _ => ⟨F2_a.out.below hb34 F2_a.out.lt, F2_b.out.below hb34 F2_b.out.lt⟩) ?_
  refine Lex.lex_do rfl ?_
  go_wp2_with fail
  refine Lex.lexQ_normal (fun _ => ⟨F2_a.out.below hb34 F2_a.out.lt, F2_b.out.below hb34 F2_b.out.lt⟩) ?_
  refine Lex.lex_do rfl ?_
  go_wp2_with fail
  refine Lex.lexQ_normal (fun _ => ⟨F2_a.out.below hb34 F2_a.out.lt, F2_b.out.below hb34 F2_b.out.lt⟩) ?_
  refine Lex.lex_nil ?_
  have HE := Lib.hid hw34
  clear hb34 hw34
  go_wp2
  go_ret
  exact ⟨by rw [← HB.out]; rfl, HE.out⟩

set_option maxRecDepth 100000 in
set_option maxHeartbeats 6400000 in
theorem rbetter_w (A1 : Option Addr) (n1 c1 : Nat) (A2 : Option Addr) (c2 : Nat) (A3 : Option Addr) (n3 c3 : Nat) (A4 : Option Addr) (c4 : Nat) (ws ps us vs : List Int) (b : Bool × Unit) (w : World) (h1 : Ints .i64 w A1 ws) (h2 : Ints .i64 w A2 ps) (h3 : Ints .i64 w A3 us) (h4 : Ints .i64 w A4 vs) (l1 : ws.length = n1) (l2 : ps.length = n1) (l3 : us.length = n3) (l4 : vs.length = n3) (m1 : n1 ≤ 12) (m3 : n3 ≤ 12) (b1 : ∀ x ∈ ws, 1 ≤ x ∧ x ≤ 200) (b2 : ∀ x ∈ ps, 1 ≤ x ∧ x ≤ 200) (b3 : ∀ x ∈ us, 1 ≤ x ∧ x ≤ 200) (b4 : ∀ x ∈ vs, 1 ≤ x ∧ x ≤ 200) (hb : decide (betterM ws ps us vs < 0) = b.1) (hq : n1 = n3) (hc : sumL (ws ++ ps) = sumL (us ++ vs)) (hd : firstL ws us ≠ 0) :
    Calls Tryz.prog 23 #[.agg #[.slice A1 n1 c1, .slice A2 n1 c2], .agg #[.slice A3 n3 c3, .slice A4 n3 c4]] w (RetV (.bool b.1) w) := by
  obtain ⟨S1, hS1⟩ : ∃ S1, S1 = sumL ws := ⟨_, rfl⟩
  obtain ⟨S2, hS2⟩ : ∃ S2, S2 = sumL ps := ⟨_, rfl⟩
  obtain ⟨S3, hS3⟩ : ∃ S3, S3 = sumL us := ⟨_, rfl⟩
  obtain ⟨S4, hS4⟩ : ∃ S4, S4 = sumL vs := ⟨_, rfl⟩
  have HS := Lib.hid (show (0 ≤ S1 ∧ S1 ≤ 2400) ∧ (0 ≤ S2 ∧ S2 ≤ 2400) ∧ (0 ≤ S3 ∧ S3 ≤ 2400) ∧ (0 ≤ S4 ∧ S4 ≤ 2400) by
    have := sumL_bound ws b1; have := sumL_bound ps b2; have := sumL_bound us b3; have := sumL_bound vs b4
    rw [l1] at *; rw [l2] at *; rw [l3] at *; rw [l4] at *
    omega)
  have hsw : sumL (ws ++ ps) = S1 + S2 := by rw [hS1, hS2]; unfold sumL; rw [List.foldl_append, foldl_add]; rfl
  have hsu : sumL (us ++ vs) = S3 + S4 := by rw [hS3, hS4]; unfold sumL; rw [List.foldl_append, foldl_add]; rfl
  obtain ⟨f1, hf1⟩ : ∃ f1, f1 = firstL ws us := ⟨_, rfl⟩
  obtain ⟨f2, hf2⟩ : ∃ f2, f2 = firstL ps vs := ⟨_, rfl⟩
  have hw1 := firstL_cmp (a := ws) (b := us) (by omega)
  have hp1 := firstL_cmp (a := ps) (b := vs) (by omega)
  rw [← hf1] at hw1 hd
  rw [← hf2] at hp1
  have HB := Lib.hid (show decide (f1 < 0) = b.1 by
    rw [← hb]
    exact decide_eq_decide.2 (by
      rw [betterM_lt, l1, l3, ← hw1, sgn_lt0]
      constructor
      · intro g; exact .inr ⟨hq, .inr ⟨hc, .inl g⟩⟩
      · rintro (g | ⟨_, g | ⟨_, g | ⟨g, _⟩⟩⟩)
        · omega
        · omega
        · exact g
        · exact absurd (by rw [g, cmpL_self] at hw1; exact sgn_eq0.1 hw1) hd))
  have cs1 : ∀ W (_ : Below w.heap.size w W), Calls Tryz.prog 66 #[.slice A1 n1 c1] W (RetW (.int .i64 S1) W) := fun W hw => by rw [hS1]; exact (rsum_any A1 n1 c1 ws W (h1.below hw) l1 (by omega) b1).mono fun e w' h => RetW.of ⟨h.1, by rw [← h.2]; exact Below.refl _ _⟩
  have cs2 : ∀ W (_ : Below w.heap.size w W), Calls Tryz.prog 66 #[.slice A2 n1 c2] W (RetW (.int .i64 S2) W) := fun W hw => by rw [hS2]; exact (rsum_any A2 n1 c2 ps W (h2.below hw) l2 (by omega) b2).mono fun e w' h => RetW.of ⟨h.1, by rw [← h.2]; exact Below.refl _ _⟩
  have cs3 : ∀ W (_ : Below w.heap.size w W), Calls Tryz.prog 66 #[.slice A3 n3 c3] W (RetW (.int .i64 S3) W) := fun W hw => by rw [hS3]; exact (rsum_any A3 n3 c3 us W (h3.below hw) l3 (by omega) b3).mono fun e w' h => RetW.of ⟨h.1, by rw [← h.2]; exact Below.refl _ _⟩
  have cs4 : ∀ W (_ : Below w.heap.size w W), Calls Tryz.prog 66 #[.slice A4 n3 c4] W (RetW (.int .i64 S4) W) := fun W hw => by rw [hS4]; exact (rsum_any A4 n3 c4 vs W (h4.below hw) l4 (by omega) b4).mono fun e w' h => RetW.of ⟨h.1, by rw [← h.2]; exact Below.refl _ _⟩
  have cf1 : ∀ W (_ : Below w.heap.size w W), Calls Tryz.prog 67 #[.slice A1 n1 c1, .slice A3 n3 c3] W (RetW (.int .i64 f1) W) := fun W hw => by rw [hf1]; exact (rfirst_any A1 A3 n1 c1 n3 c3 ws us W (h1.below hw) (h3.below hw) l1 l3 b1 b3 (by omega) (by omega)).mono fun e w' h => RetW.of h
  have cf2 : ∀ W (_ : Below w.heap.size w W), Calls Tryz.prog 67 #[.slice A2 n1 c2, .slice A4 n3 c4] W (RetW (.int .i64 f2) W) := fun W hw => by rw [hf2]; exact (rfirst_any A2 A4 n1 c2 n3 c4 ps vs W (h2.below hw) (h4.below hw) l2 l4 b2 b4 (by omega) (by omega)).mono fun e w' h => RetW.of h
  have e1 : ((n1 : Int) != (n3 : Int)) = false := by simp; omega
  have e2 : ((S1 + S2 : Int) != (S3 + S4)) = false := by rw [hsw, hsu] at hc; simp; exact hc
  have e3 : (f1 != (0 : Int)) = true := by simp; exact hd
  clear hb h1 h2 h3 h4 l1 l2 l3 l4 b1 b2 b3 b4 hc hq hsw hsu hS1 hS2 hS3 hS4 hf1 hf2 hw1 hp1 hd
  obtain ⟨W3, hW3⟩ : ∃ W3, W3 = ((w.alloc (.cells #[.slice A1 n1 c1, .slice A2 n1 c2] 24)).alloc (.cells #[.slice A3 n3 c3, .slice A4 n3 c4] 24)) := ⟨_, rfl⟩
  have hB : Below w.heap.size w W3 := by rw [hW3]; exact (((Below.refl _ _).alloc (Nat.le_refl _) _).alloc (by simp; try omega) _)
  have HBW := Lib.hid hB
  have HF := Lib.hid (show Two W3 (w.heap.size) (.slice A1 n1 c1) (.slice A2 n1 c2) 24 by rw [hW3]; exact (((Two.newAt _ _ _ _ _ (by simp))).alloc _))
  have HG := Lib.hid (show Two W3 (w.heap.size + 1) (.slice A3 n3 c3) (.slice A4 n3 c4) 24 by rw [hW3]; exact (Two.newAt _ _ _ _ _ (by simp)))
  clear hB
  go_enter Tryz.func23, Tryz.ntmps23
  go_upto_region 1 with fail
  rw [← hW3]
  clear hW3
  have HE1 := Lib.hid e1
  have HE2 := Lib.hid e2
  have HE3 := Lib.hid e3
  have k0 := HF.out.cell0
  have k1 := HG.out.cell0
  go_upto_region 3 with fail
  clear k0 k1
  obtain ⟨u1, u2, u3, u4⟩ : -9223372036854775808 ≤ S1 + S2 ∧ S1 + S2 ≤ 9223372036854775807 ∧ -9223372036854775808 ≤ S3 + S4 ∧ S3 + S4 ≤ 9223372036854775807 := by have := HS.out; omega
  refine Lex.wp_region_lex (fun w' => Two w' w.heap.size (.slice A1 n1 c1) (.slice A2 n1 c2) 24 ∧ Two w' (w.heap.size + 1) (.slice A3 n3 c3) (.slice A4 n3 c4) 24) (fun _ => true)
    [(0, true), (1, true), (3, true), (4, true), (7, true), (8, true), (10, true), (11, true), (2, false), (5, false), (6, true), (9, false), (12, false), (13, false), (14, false)]
    (by kernel_rfl) (by kernel_rfl) (by kernel_rfl) (by kernel_rfl) ⟨HF.out, HG.out⟩ ?_
  have hb10 : Below W3.heap.size W3 W3.drew := ⟨rfl, rfl, rfl, Nat.le_refl _, fun _ _ => rfl⟩
  have hw10 : Below w.heap.size w W3.drew := ⟨HBW.out.os, HBW.out.tape, HBW.out.output, HBW.out.size, HBW.out.block⟩
  generalize hV0 : W3.drew = V10 at *
  clear hV0
  refine Lex.lex_take (v := ?_) rfl rfl (by rfl) (fun _ hS => ?_) ?_; rotate_left 1; (focus (have g0_0 := hS.1.cell0; have g0_1 := hS.1.cell1; have g1_0 := hS.2.cell0; have g1_1 := hS.2.cell1; clear hS; go_simp; with_reducible rfl)); simp only [List.setIfInBounds_toArray, List.set_cons_zero, List.set_cons_succ]
  refine Lex.lex_take (v := ?_) rfl rfl (by rfl) (fun _ hS => ?_) ?_; rotate_left 1; (focus (have g0_0 := hS.1.cell0; have g0_1 := hS.1.cell1; have g1_0 := hS.2.cell0; have g1_1 := hS.2.cell1; clear hS; go_simp; with_reducible rfl)); simp only [List.setIfInBounds_toArray, List.set_cons_zero, List.set_cons_succ]
  refine Lex.lex_take (v := ?_) rfl rfl (by rfl) (fun _ hS => ?_) ?_; rotate_left 1; (focus (have g0_0 := hS.1.cell0; have g0_1 := hS.1.cell1; have g1_0 := hS.2.cell0; have g1_1 := hS.2.cell1; clear hS; go_simp; with_reducible rfl)); simp only [List.setIfInBounds_toArray, List.set_cons_zero, List.set_cons_succ]
  refine Lex.lex_take (v := ?_) rfl rfl (by rfl) (fun _ hS => ?_) ?_; rotate_left 1; (focus (have g0_0 := hS.1.cell0; have g0_1 := hS.1.cell1; have g1_0 := hS.2.cell0; have g1_1 := hS.2.cell1; clear hS; go_simp; with_reducible rfl)); simp only [List.setIfInBounds_toArray, List.set_cons_zero, List.set_cons_succ]
  refine Lex.lex_take (v := ?_) rfl rfl (by rfl) (fun _ hS => ?_) ?_; rotate_left 1; (focus (have g0_0 := hS.1.cell0; have g0_1 := hS.1.cell1; have g1_0 := hS.2.cell0; have g1_1 := hS.2.cell1; clear hS; go_simp; with_reducible rfl)); simp only [List.setIfInBounds_toArray, List.set_cons_zero, List.set_cons_succ]
  refine Lex.lex_take (v := ?_) rfl rfl (by rfl) (fun _ hS => ?_) ?_; rotate_left 1; (focus (have g0_0 := hS.1.cell0; have g0_1 := hS.1.cell1; have g1_0 := hS.2.cell0; have g1_1 := hS.2.cell1; clear hS; go_simp; with_reducible rfl)); simp only [List.setIfInBounds_toArray, List.set_cons_zero, List.set_cons_succ]
  refine Lex.lex_take (v := ?_) rfl rfl (by rfl) (fun _ hS => ?_) ?_; rotate_left 1; (focus (have g0_0 := hS.1.cell0; have g0_1 := hS.1.cell1; have g1_0 := hS.2.cell0; have g1_1 := hS.2.cell1; clear hS; go_simp; with_reducible rfl)); simp only [List.setIfInBounds_toArray, List.set_cons_zero, List.set_cons_succ]
  refine Lex.lex_take (v := ?_) rfl rfl (by rfl) (fun _ hS => ?_) ?_; rotate_left 1; (focus (have g0_0 := hS.1.cell0; have g0_1 := hS.1.cell1; have g1_0 := hS.2.cell0; have g1_1 := hS.2.cell1; clear hS; go_simp; with_reducible rfl)); simp only [List.setIfInBounds_toArray, List.set_cons_zero, List.set_cons_succ]
  refine Lex.lex_do rfl ?_
  have cc := cs1 V10 hw10
  go_wp2_with fail
  refine cc.mono ?_
  rintro e V11 ⟨v11, rfl, hm11, hn11⟩
  have hb11 := hb10.trans (hn11.mono hb10.size)
  have hw11 := hw10.trans (hn11.mono hw10.size)
  subst hm11
  clear cc hb10 hw10 hn11
  go_wp2_with fail
  refine Lex.lexQ_normal (fun _ => ⟨HF.out.below hb11 HF.out.lt, HG.out.below hb11 HG.out.lt⟩) ?_
  refine Lex.lex_do rfl ?_
  have cc := cs2 V11 hw11
  go_wp2_with fail
  refine cc.mono ?_
  rintro e V12 ⟨v12, rfl, hm12, hn12⟩
  have hb12 := hb11.trans (hn12.mono hb11.size)
  have hw12 := hw11.trans (hn12.mono hw11.size)
  subst hm12
  clear cc hb11 hw11 hn12
  go_wp2_with fail
  refine Lex.lexQ_normal (fun _ => ⟨HF.out.below hb12 HF.out.lt, HG.out.below hb12 HG.out.lt⟩) ?_
  refine Lex.lex_take (v := ?_) rfl rfl (by rfl) (fun _ hS => ?_) ?_; rotate_left 1; (focus (have g0_0 := hS.1.cell0; have g0_1 := hS.1.cell1; have g1_0 := hS.2.cell0; have g1_1 := hS.2.cell1; clear hS; go_simp; with_reducible rfl)); simp only [List.setIfInBounds_toArray, List.set_cons_zero, List.set_cons_succ]
  refine Lex.lex_do rfl ?_
  have cc := cs3 V12 hw12
  go_wp2_with fail
  refine cc.mono ?_
  rintro e V13 ⟨v13, rfl, hm13, hn13⟩
  have hb13 := hb12.trans (hn13.mono hb12.size)
  have hw13 := hw12.trans (hn13.mono hw12.size)
  subst hm13
  clear cc hb12 hw12 hn13
  go_wp2_with fail
  refine Lex.lexQ_normal (fun _ => ⟨HF.out.below hb13 HF.out.lt, HG.out.below hb13 HG.out.lt⟩) ?_
  refine Lex.lex_do rfl ?_
  have cc := cs4 V13 hw13
  go_wp2_with fail
  refine cc.mono ?_
  rintro e V14 ⟨v14, rfl, hm14, hn14⟩
  have hb14 := hb13.trans (hn14.mono hb13.size)
  have hw14 := hw13.trans (hn14.mono hw13.size)
  subst hm14
  clear cc hb13 hw13 hn14
  go_wp2_with fail
  refine Lex.lexQ_normal (fun _ => ⟨HF.out.below hb14 HF.out.lt, HG.out.below hb14 HG.out.lt⟩) ?_
  refine Lex.lex_do rfl ?_
  go_wp2_with fail
  refine Lex.lexQ_normal (fun _ => ⟨HF.out.below hb14 HF.out.lt, HG.out.below hb14 HG.out.lt⟩) ?_
  refine Lex.lex_do rfl ?_
  go_wp2_with fail
  refine Lex.lexQ_normal (fun _ => ⟨HF.out.below hb14 HF.out.lt, HG.out.below hb14 HG.out.lt⟩) ?_
  refine Lex.lex_nil ?_
  have F2_a := Lib.hid (HF.out.below hb14 HF.out.lt)
  have F2_b := Lib.hid (HG.out.below hb14 HG.out.lt)
  have B2_ := Lib.hid hw14
  clear hb14 hw14 HF HG HBW
  go_upto_region 5 with fail
  have k0_0 := F2_a.out.cell0
  have k0_1 := F2_a.out.cell1
  have k1_0 := F2_b.out.cell0
  have k1_1 := F2_b.out.cell1
  have hb30 := Below.refl V14.heap.size V14
  have hw30 := B2_.out
  have cc := cf1 V14 hw30
  go_wp2_with fail
  refine cc.mono ?_
  rintro e V31 ⟨v31, rfl, hm31, hn31⟩
  have hb31 := hb30.trans (hn31.mono hb30.size)
  have hw31 := hw30.trans (hn31.mono hw30.size)
  subst hm31
  clear cc hb30 hw30 hn31
  clear k0_0 k0_1 k1_0 k1_1
  have k0_0 := (F2_a.out.below hb31 F2_a.out.lt).cell0
  have k0_1 := (F2_a.out.below hb31 F2_a.out.lt).cell1
  have k1_0 := (F2_b.out.below hb31 F2_b.out.lt).cell0
  have k1_1 := (F2_b.out.below hb31 F2_b.out.lt).cell1
  go_upto_region 6 with fail
  clear k0_0 k0_1 k1_0 k1_1
  have F4_a := Lib.hid (F2_a.out.below hb31 F2_a.out.lt)
  have F4_b := Lib.hid (F2_b.out.below hb31 F2_b.out.lt)
  have B4_ := Lib.hid hw31
  clear hb31 hw31 F2_a F2_b B2_
  have k0_0 := F4_a.out.cell0
  have k0_1 := F4_a.out.cell1
  have k1_0 := F4_b.out.cell0
  have k1_1 := F4_b.out.cell1
  have hb50 := Below.refl V31.heap.size V31
  have hw50 := B4_.out
  have cc := cf1 V31 hw50
  go_wp2_with fail
  refine cc.mono ?_
  rintro e V51 ⟨v51, rfl, hm51, hn51⟩
  have hb51 := hb50.trans (hn51.mono hb50.size)
  have hw51 := hw50.trans (hn51.mono hw50.size)
  subst hm51
  clear cc hb50 hw50 hn51
  clear k0_0 k0_1 k1_0 k1_1
  have k0_0 := (F4_a.out.below hb51 F4_a.out.lt).cell0
  have k0_1 := (F4_a.out.below hb51 F4_a.out.lt).cell1
  have k1_0 := (F4_b.out.below hb51 F4_b.out.lt).cell0
  have k1_1 := (F4_b.out.below hb51 F4_b.out.lt).cell1
  have HE := Lib.hid hw51
  clear hb51 hw51
  go_wp2
  go_ret
  exact ⟨by rw [← HB.out]; rfl, HE.out⟩

set_option maxRecDepth 100000 in
set_option maxHeartbeats 6400000 in
theorem rbetter_p (A1 : Option Addr) (n1 c1 : Nat) (A2 : Option Addr) (c2 : Nat) (A3 : Option Addr) (n3 c3 : Nat) (A4 : Option Addr) (c4 : Nat) (ws ps us vs : List Int) (b : Bool × Unit) (w : World) (h1 : Ints .i64 w A1 ws) (h2 : Ints .i64 w A2 ps) (h3 : Ints .i64 w A3 us) (h4 : Ints .i64 w A4 vs) (l1 : ws.length = n1) (l2 : ps.length = n1) (l3 : us.length = n3) (l4 : vs.length = n3) (m1 : n1 ≤ 12) (m3 : n3 ≤ 12) (b1 : ∀ x ∈ ws, 1 ≤ x ∧ x ≤ 200) (b2 : ∀ x ∈ ps, 1 ≤ x ∧ x ≤ 200) (b3 : ∀ x ∈ us, 1 ≤ x ∧ x ≤ 200) (b4 : ∀ x ∈ vs, 1 ≤ x ∧ x ≤ 200) (hb : decide (betterM ws ps us vs < 0) = b.1) (hq : n1 = n3) (hc : sumL (ws ++ ps) = sumL (us ++ vs)) (hd : firstL ws us = 0) :
    Calls Tryz.prog 23 #[.agg #[.slice A1 n1 c1, .slice A2 n1 c2], .agg #[.slice A3 n3 c3, .slice A4 n3 c4]] w (RetV (.bool b.1) w) := by
  obtain ⟨S1, hS1⟩ : ∃ S1, S1 = sumL ws := ⟨_, rfl⟩
  obtain ⟨S2, hS2⟩ : ∃ S2, S2 = sumL ps := ⟨_, rfl⟩
  obtain ⟨S3, hS3⟩ : ∃ S3, S3 = sumL us := ⟨_, rfl⟩
  obtain ⟨S4, hS4⟩ : ∃ S4, S4 = sumL vs := ⟨_, rfl⟩
  have HS := Lib.hid (show (0 ≤ S1 ∧ S1 ≤ 2400) ∧ (0 ≤ S2 ∧ S2 ≤ 2400) ∧ (0 ≤ S3 ∧ S3 ≤ 2400) ∧ (0 ≤ S4 ∧ S4 ≤ 2400) by
    have := sumL_bound ws b1; have := sumL_bound ps b2; have := sumL_bound us b3; have := sumL_bound vs b4
    rw [l1] at *; rw [l2] at *; rw [l3] at *; rw [l4] at *
    omega)
  have hsw : sumL (ws ++ ps) = S1 + S2 := by rw [hS1, hS2]; unfold sumL; rw [List.foldl_append, foldl_add]; rfl
  have hsu : sumL (us ++ vs) = S3 + S4 := by rw [hS3, hS4]; unfold sumL; rw [List.foldl_append, foldl_add]; rfl
  obtain ⟨f1, hf1⟩ : ∃ f1, f1 = firstL ws us := ⟨_, rfl⟩
  obtain ⟨f2, hf2⟩ : ∃ f2, f2 = firstL ps vs := ⟨_, rfl⟩
  have hw1 := firstL_cmp (a := ws) (b := us) (by omega)
  have hp1 := firstL_cmp (a := ps) (b := vs) (by omega)
  rw [← hf1] at hw1 hd
  rw [← hf2] at hp1
  have HB := Lib.hid (show decide (f2 < 0) = b.1 by
    rw [← hb]
    exact decide_eq_decide.2 (by
      rw [betterM_lt, l1, l3, ← hw1, ← hp1, sgn_lt0, sgn_lt0]
      constructor
      · intro g; exact .inr ⟨hq, .inr ⟨hc, .inr ⟨cmpL_eq (by rw [← hw1]; exact sgn_eq0.2 hd), g⟩⟩⟩
      · rintro (g | ⟨_, g | ⟨_, g | ⟨_, g⟩⟩⟩)
        · omega
        · omega
        · omega
        · exact g))
  have cs1 : ∀ W (_ : Below w.heap.size w W), Calls Tryz.prog 66 #[.slice A1 n1 c1] W (RetW (.int .i64 S1) W) := fun W hw => by rw [hS1]; exact (rsum_any A1 n1 c1 ws W (h1.below hw) l1 (by omega) b1).mono fun e w' h => RetW.of ⟨h.1, by rw [← h.2]; exact Below.refl _ _⟩
  have cs2 : ∀ W (_ : Below w.heap.size w W), Calls Tryz.prog 66 #[.slice A2 n1 c2] W (RetW (.int .i64 S2) W) := fun W hw => by rw [hS2]; exact (rsum_any A2 n1 c2 ps W (h2.below hw) l2 (by omega) b2).mono fun e w' h => RetW.of ⟨h.1, by rw [← h.2]; exact Below.refl _ _⟩
  have cs3 : ∀ W (_ : Below w.heap.size w W), Calls Tryz.prog 66 #[.slice A3 n3 c3] W (RetW (.int .i64 S3) W) := fun W hw => by rw [hS3]; exact (rsum_any A3 n3 c3 us W (h3.below hw) l3 (by omega) b3).mono fun e w' h => RetW.of ⟨h.1, by rw [← h.2]; exact Below.refl _ _⟩
  have cs4 : ∀ W (_ : Below w.heap.size w W), Calls Tryz.prog 66 #[.slice A4 n3 c4] W (RetW (.int .i64 S4) W) := fun W hw => by rw [hS4]; exact (rsum_any A4 n3 c4 vs W (h4.below hw) l4 (by omega) b4).mono fun e w' h => RetW.of ⟨h.1, by rw [← h.2]; exact Below.refl _ _⟩
  have cf1 : ∀ W (_ : Below w.heap.size w W), Calls Tryz.prog 67 #[.slice A1 n1 c1, .slice A3 n3 c3] W (RetW (.int .i64 f1) W) := fun W hw => by rw [hf1]; exact (rfirst_any A1 A3 n1 c1 n3 c3 ws us W (h1.below hw) (h3.below hw) l1 l3 b1 b3 (by omega) (by omega)).mono fun e w' h => RetW.of h
  have cf2 : ∀ W (_ : Below w.heap.size w W), Calls Tryz.prog 67 #[.slice A2 n1 c2, .slice A4 n3 c4] W (RetW (.int .i64 f2) W) := fun W hw => by rw [hf2]; exact (rfirst_any A2 A4 n1 c2 n3 c4 ps vs W (h2.below hw) (h4.below hw) l2 l4 b2 b4 (by omega) (by omega)).mono fun e w' h => RetW.of h
  have e1 : ((n1 : Int) != (n3 : Int)) = false := by simp; omega
  have e2 : ((S1 + S2 : Int) != (S3 + S4)) = false := by rw [hsw, hsu] at hc; simp; exact hc
  have e3 : (f1 != (0 : Int)) = false := by simp; exact hd
  clear hb h1 h2 h3 h4 l1 l2 l3 l4 b1 b2 b3 b4 hc hq hsw hsu hS1 hS2 hS3 hS4 hf1 hf2 hw1 hp1 hd
  obtain ⟨W3, hW3⟩ : ∃ W3, W3 = ((w.alloc (.cells #[.slice A1 n1 c1, .slice A2 n1 c2] 24)).alloc (.cells #[.slice A3 n3 c3, .slice A4 n3 c4] 24)) := ⟨_, rfl⟩
  have hB : Below w.heap.size w W3 := by rw [hW3]; exact (((Below.refl _ _).alloc (Nat.le_refl _) _).alloc (by simp; try omega) _)
  have HBW := Lib.hid hB
  have HF := Lib.hid (show Two W3 (w.heap.size) (.slice A1 n1 c1) (.slice A2 n1 c2) 24 by rw [hW3]; exact (((Two.newAt _ _ _ _ _ (by simp))).alloc _))
  have HG := Lib.hid (show Two W3 (w.heap.size + 1) (.slice A3 n3 c3) (.slice A4 n3 c4) 24 by rw [hW3]; exact (Two.newAt _ _ _ _ _ (by simp)))
  clear hB
  go_enter Tryz.func23, Tryz.ntmps23
  go_upto_region 1 with fail
  rw [← hW3]
  clear hW3
  have HE1 := Lib.hid e1
  have HE2 := Lib.hid e2
  have HE3 := Lib.hid e3
  have k0 := HF.out.cell0
  have k1 := HG.out.cell0
  go_upto_region 3 with fail
  clear k0 k1
  obtain ⟨u1, u2, u3, u4⟩ : -9223372036854775808 ≤ S1 + S2 ∧ S1 + S2 ≤ 9223372036854775807 ∧ -9223372036854775808 ≤ S3 + S4 ∧ S3 + S4 ≤ 9223372036854775807 := by have := HS.out; omega
  refine Lex.wp_region_lex (fun w' => Two w' w.heap.size (.slice A1 n1 c1) (.slice A2 n1 c2) 24 ∧ Two w' (w.heap.size + 1) (.slice A3 n3 c3) (.slice A4 n3 c4) 24) (fun _ => true)
    [(0, true), (1, true), (3, true), (4, true), (7, true), (8, true), (10, true), (11, true), (2, false), (5, false), (6, true), (9, false), (12, false), (13, false), (14, false)]
    (by kernel_rfl) (by kernel_rfl) (by kernel_rfl) (by kernel_rfl) ⟨HF.out, HG.out⟩ ?_
  have hb10 : Below W3.heap.size W3 W3.drew := ⟨rfl, rfl, rfl, Nat.le_refl _, fun _ _ => rfl⟩
  have hw10 : Below w.heap.size w W3.drew := ⟨HBW.out.os, HBW.out.tape, HBW.out.output, HBW.out.size, HBW.out.block⟩
  generalize hV0 : W3.drew = V10 at *
  clear hV0
  refine Lex.lex_take (v := ?_) rfl rfl (by rfl) (fun _ hS => ?_) ?_; rotate_left 1; (focus (have g0_0 := hS.1.cell0; have g0_1 := hS.1.cell1; have g1_0 := hS.2.cell0; have g1_1 := hS.2.cell1; clear hS; go_simp; with_reducible rfl)); simp only [List.setIfInBounds_toArray, List.set_cons_zero, List.set_cons_succ]
  refine Lex.lex_take (v := ?_) rfl rfl (by rfl) (fun _ hS => ?_) ?_; rotate_left 1; (focus (have g0_0 := hS.1.cell0; have g0_1 := hS.1.cell1; have g1_0 := hS.2.cell0; have g1_1 := hS.2.cell1; clear hS; go_simp; with_reducible rfl)); simp only [List.setIfInBounds_toArray, List.set_cons_zero, List.set_cons_succ]
  refine Lex.lex_take (v := ?_) rfl rfl (by rfl) (fun _ hS => ?_) ?_; rotate_left 1; (focus (have g0_0 := hS.1.cell0; have g0_1 := hS.1.cell1; have g1_0 := hS.2.cell0; have g1_1 := hS.2.cell1; clear hS; go_simp; with_reducible rfl)); simp only [List.setIfInBounds_toArray, List.set_cons_zero, List.set_cons_succ]
  refine Lex.lex_take (v := ?_) rfl rfl (by rfl) (fun _ hS => ?_) ?_; rotate_left 1; (focus (have g0_0 := hS.1.cell0; have g0_1 := hS.1.cell1; have g1_0 := hS.2.cell0; have g1_1 := hS.2.cell1; clear hS; go_simp; with_reducible rfl)); simp only [List.setIfInBounds_toArray, List.set_cons_zero, List.set_cons_succ]
  refine Lex.lex_take (v := ?_) rfl rfl (by rfl) (fun _ hS => ?_) ?_; rotate_left 1; (focus (have g0_0 := hS.1.cell0; have g0_1 := hS.1.cell1; have g1_0 := hS.2.cell0; have g1_1 := hS.2.cell1; clear hS; go_simp; with_reducible rfl)); simp only [List.setIfInBounds_toArray, List.set_cons_zero, List.set_cons_succ]
  refine Lex.lex_take (v := ?_) rfl rfl (by rfl) (fun _ hS => ?_) ?_; rotate_left 1; (focus (have g0_0 := hS.1.cell0; have g0_1 := hS.1.cell1; have g1_0 := hS.2.cell0; have g1_1 := hS.2.cell1; clear hS; go_simp; with_reducible rfl)); simp only [List.setIfInBounds_toArray, List.set_cons_zero, List.set_cons_succ]
  refine Lex.lex_take (v := ?_) rfl rfl (by rfl) (fun _ hS => ?_) ?_; rotate_left 1; (focus (have g0_0 := hS.1.cell0; have g0_1 := hS.1.cell1; have g1_0 := hS.2.cell0; have g1_1 := hS.2.cell1; clear hS; go_simp; with_reducible rfl)); simp only [List.setIfInBounds_toArray, List.set_cons_zero, List.set_cons_succ]
  refine Lex.lex_take (v := ?_) rfl rfl (by rfl) (fun _ hS => ?_) ?_; rotate_left 1; (focus (have g0_0 := hS.1.cell0; have g0_1 := hS.1.cell1; have g1_0 := hS.2.cell0; have g1_1 := hS.2.cell1; clear hS; go_simp; with_reducible rfl)); simp only [List.setIfInBounds_toArray, List.set_cons_zero, List.set_cons_succ]
  refine Lex.lex_do rfl ?_
  have cc := cs1 V10 hw10
  go_wp2_with fail
  refine cc.mono ?_
  rintro e V11 ⟨v11, rfl, hm11, hn11⟩
  have hb11 := hb10.trans (hn11.mono hb10.size)
  have hw11 := hw10.trans (hn11.mono hw10.size)
  subst hm11
  clear cc hb10 hw10 hn11
  go_wp2_with fail
  refine Lex.lexQ_normal (fun _ => ⟨HF.out.below hb11 HF.out.lt, HG.out.below hb11 HG.out.lt⟩) ?_
  refine Lex.lex_do rfl ?_
  have cc := cs2 V11 hw11
  go_wp2_with fail
  refine cc.mono ?_
  rintro e V12 ⟨v12, rfl, hm12, hn12⟩
  have hb12 := hb11.trans (hn12.mono hb11.size)
  have hw12 := hw11.trans (hn12.mono hw11.size)
  subst hm12
  clear cc hb11 hw11 hn12
  go_wp2_with fail
  refine Lex.lexQ_normal (fun _ => ⟨HF.out.below hb12 HF.out.lt, HG.out.below hb12 HG.out.lt⟩) ?_
  refine Lex.lex_take (v := ?_) rfl rfl (by rfl) (fun _ hS => ?_) ?_; rotate_left 1; (focus (have g0_0 := hS.1.cell0; have g0_1 := hS.1.cell1; have g1_0 := hS.2.cell0; have g1_1 := hS.2.cell1; clear hS; go_simp; with_reducible rfl)); simp only [List.setIfInBounds_toArray, List.set_cons_zero, List.set_cons_succ]
  refine Lex.lex_do rfl ?_
  have cc := cs3 V12 hw12
  go_wp2_with fail
  refine cc.mono ?_
  rintro e V13 ⟨v13, rfl, hm13, hn13⟩
  have hb13 := hb12.trans (hn13.mono hb12.size)
  have hw13 := hw12.trans (hn13.mono hw12.size)
  subst hm13
  clear cc hb12 hw12 hn13
  go_wp2_with fail
  refine Lex.lexQ_normal (fun _ => ⟨HF.out.below hb13 HF.out.lt, HG.out.below hb13 HG.out.lt⟩) ?_
  refine Lex.lex_do rfl ?_
  have cc := cs4 V13 hw13
  go_wp2_with fail
  refine cc.mono ?_
  rintro e V14 ⟨v14, rfl, hm14, hn14⟩
  have hb14 := hb13.trans (hn14.mono hb13.size)
  have hw14 := hw13.trans (hn14.mono hw13.size)
  subst hm14
  clear cc hb13 hw13 hn14
  go_wp2_with fail
  refine Lex.lexQ_normal (fun _ => ⟨HF.out.below hb14 HF.out.lt, HG.out.below hb14 HG.out.lt⟩) ?_
  refine Lex.lex_do rfl ?_
  go_wp2_with fail
  refine Lex.lexQ_normal (fun _ => ⟨HF.out.below hb14 HF.out.lt, HG.out.below hb14 HG.out.lt⟩) ?_
  refine Lex.lex_do rfl ?_
  go_wp2_with fail
  refine Lex.lexQ_normal (fun _ => ⟨HF.out.below hb14 HF.out.lt, HG.out.below hb14 HG.out.lt⟩) ?_
  refine Lex.lex_nil ?_
  have F2_a := Lib.hid (HF.out.below hb14 HF.out.lt)
  have F2_b := Lib.hid (HG.out.below hb14 HG.out.lt)
  have B2_ := Lib.hid hw14
  clear hb14 hw14 HF HG HBW
  go_upto_region 5 with fail
  have k0_0 := F2_a.out.cell0
  have k0_1 := F2_a.out.cell1
  have k1_0 := F2_b.out.cell0
  have k1_1 := F2_b.out.cell1
  have hb30 := Below.refl V14.heap.size V14
  have hw30 := B2_.out
  have cc := cf1 V14 hw30
  go_wp2_with fail
  refine cc.mono ?_
  rintro e V31 ⟨v31, rfl, hm31, hn31⟩
  have hb31 := hb30.trans (hn31.mono hb30.size)
  have hw31 := hw30.trans (hn31.mono hw30.size)
  subst hm31
  clear cc hb30 hw30 hn31
  clear k0_0 k0_1 k1_0 k1_1
  have k0_0 := (F2_a.out.below hb31 F2_a.out.lt).cell0
  have k0_1 := (F2_a.out.below hb31 F2_a.out.lt).cell1
  have k1_0 := (F2_b.out.below hb31 F2_b.out.lt).cell0
  have k1_1 := (F2_b.out.below hb31 F2_b.out.lt).cell1
  go_upto_region 7 with fail
  clear k0_0 k0_1 k1_0 k1_1
  have F4_a := Lib.hid (F2_a.out.below hb31 F2_a.out.lt)
  have F4_b := Lib.hid (F2_b.out.below hb31 F2_b.out.lt)
  have B4_ := Lib.hid hw31
  clear hb31 hw31 F2_a F2_b B2_
  have k0_0 := F4_a.out.cell0
  have k0_1 := F4_a.out.cell1
  have k1_0 := F4_b.out.cell0
  have k1_1 := F4_b.out.cell1
  have hb50 := Below.refl V31.heap.size V31
  have hw50 := B4_.out
  have cc := cf2 V31 hw50
  go_wp2_with fail
  refine cc.mono ?_
  rintro e V51 ⟨v51, rfl, hm51, hn51⟩
  have hb51 := hb50.trans (hn51.mono hb50.size)
  have hw51 := hw50.trans (hn51.mono hw50.size)
  subst hm51
  clear cc hb50 hw50 hn51
  clear k0_0 k0_1 k1_0 k1_1
  have k0_0 := (F4_a.out.below hb51 F4_a.out.lt).cell0
  have k0_1 := (F4_a.out.below hb51 F4_a.out.lt).cell1
  have k1_0 := (F4_b.out.below hb51 F4_b.out.lt).cell0
  have k1_1 := (F4_b.out.below hb51 F4_b.out.lt).cell1
  have HE := Lib.hid hw51
  clear hb51 hw51
  go_wp2
  go_ret
  exact ⟨by rw [← HB.out]; rfl, HE.out⟩

theorem rbetter_any (A1 : Option Addr) (n1 c1 : Nat) (A2 : Option Addr) (c2 : Nat) (A3 : Option Addr) (n3 c3 : Nat) (A4 : Option Addr) (c4 : Nat) (ws ps us vs : List Int) (b : Bool × Unit) (w : World) (h1 : Ints .i64 w A1 ws) (h2 : Ints .i64 w A2 ps) (h3 : Ints .i64 w A3 us) (h4 : Ints .i64 w A4 vs) (l1 : ws.length = n1) (l2 : ps.length = n1) (l3 : us.length = n3) (l4 : vs.length = n3) (m1 : n1 ≤ 12) (m3 : n3 ≤ 12) (b1 : ∀ x ∈ ws, 1 ≤ x ∧ x ≤ 200) (b2 : ∀ x ∈ ps, 1 ≤ x ∧ x ≤ 200) (b3 : ∀ x ∈ us, 1 ≤ x ∧ x ≤ 200) (b4 : ∀ x ∈ vs, 1 ≤ x ∧ x ≤ 200) (hb : decide (betterM ws ps us vs < 0) = b.1) :
    Calls Tryz.prog 23 #[.agg #[.slice A1 n1 c1, .slice A2 n1 c2], .agg #[.slice A3 n3 c3, .slice A4 n3 c4]] w (RetV (.bool b.1) w) := by
  by_cases hq : n1 = n3
  · by_cases hc : sumL (ws ++ ps) = sumL (us ++ vs)
    · by_cases hd : firstL ws us = 0
      · exact rbetter_p A1 n1 c1 A2 c2 A3 n3 c3 A4 c4 ws ps us vs b w h1 h2 h3 h4 l1 l2 l3 l4 m1 m3 b1 b2 b3 b4 hb hq hc hd
      · exact rbetter_w A1 n1 c1 A2 c2 A3 n3 c3 A4 c4 ws ps us vs b w h1 h2 h3 h4 l1 l2 l3 l4 m1 m3 b1 b2 b3 b4 hb hq hc hd
    · exact rbetter_sum A1 n1 c1 A2 c2 A3 n3 c3 A4 c4 ws ps us vs b w h1 h2 h3 h4 l1 l2 l3 l4 m1 m3 b1 b2 b3 b4 hb hq hc
  · exact rbetter_len A1 n1 c1 A2 c2 A3 n3 c3 A4 c4 ws ps us vs b w h1 h2 h3 h4 l1 l2 l3 l4 m1 m3 b1 b2 b3 b4 hb hq

end Go.Proofs.YtklngjjokbhfpaaGreat
