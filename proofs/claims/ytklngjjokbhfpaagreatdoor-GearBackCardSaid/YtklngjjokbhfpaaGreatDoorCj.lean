/- ref's Small, Valid (printed by gencj.py). -/
import Derived.Test.YtklngjjokbhfpaaGreatDoorPkCh
import Derived.Test.YtklngjjokbhfpaaGreatDoorPkP
namespace Go.Proofs.YtklngjjokbhfpaaGreatDoor
open Go.RowKit

/-- What Small answers. -/
def smallV (z : Int) : Value := if -4611686018427387904 ≤ z ∧ z ≤ 4611686018427387904 then .tuple #[.int .i64 z, .bool true] else .tuple #[.int .i64 0, .bool false]
set_option maxRecDepth 100000 in
set_option maxHeartbeats 1600000 in
theorem rsmall_false (A : Option Addr) (n c : Nat) (m0 : Int) (N : Nat) (w : World) (hv : RMag w (.slice A n c) m0 N) (hN : N ≤ 900) :
    Calls Tryz.prog 25 #[.agg #[.bool false, .slice A n c]] w (RetV (smallV m0) w) := by
  have hnn := hv.nonneg
  have ci := fun W (_ : Below w.heap.size w W) => rint_any 4611686018427387904 W ⟨by omega, by omega⟩
  have cs : ∀ W (_ : Below w.heap.size w W) v1, RMag W v1 4611686018427387904 5 → Calls Tryz.prog 46 #[.slice A n c, v1] W (RetW (.int .i64 (sgn (m0 - 4611686018427387904))) W) := fun W hb v1 h => (rsizes_any (hv.below hb) h (by omega) (by omega)).mono fun e w' ⟨h1, z, h2⟩ => ⟨_, h1, rfl, by rw [h2]; exact ⟨rfl, rfl, rfl, Nat.le_refl _, fun _ _ => rfl⟩⟩
  obtain ⟨A', n', c', xs, e', hl, hnc, hcm, hA0, hI, hD, hNo, hval, hNn⟩ := hv
  cases e'
  have hho := fun i => DG.horner_le hD i
  rw [hval] at hho
  have hdr := fun (i : Nat) h => DG.dv_drop DG.b4 (l := xs) (i := i) h
  have HXG := Lib.hid (fun (i : Nat) (h : i < xs.length) => (show xs[i]'h = xs.getD i 0 by simp [List.getD, h]))
  have HX := Lib.hid (fun i => hD.getD DG.b4_one i)
  have HL := Lib.hid hl
  have HV := Lib.hid hval
  have HHO := Lib.hid hho
  have HDR := Lib.hid hdr
  have HI := Lib.hid hI
  have hsg1 : m0 ≤ 4611686018427387904 → sgn (m0 - 4611686018427387904) ≤ 0 := fun h => by unfold sgn; split <;> (try split) <;> omega
  have hsg2 : ¬ m0 ≤ 4611686018427387904 → 0 < sgn (m0 - 4611686018427387904) := fun h => by unfold sgn; split <;> (try split) <;> omega
  have hrv1 : m0 ≤ 4611686018427387904 → smallV m0 = .tuple #[.int .i64 m0, .bool true] := fun h => by unfold smallV; rw [if_pos (by omega)]
  have hrv2 : ¬ m0 ≤ 4611686018427387904 → smallV m0 = .tuple #[.int .i64 0, .bool false] := fun h => by unfold smallV; rw [if_neg (by omega)]
  generalize smallV m0 = rv at *
  generalize sgn (m0 - 4611686018427387904) = sg at *
  clear hho hdr hl hval hI hD hNo
  obtain ⟨W3, hW3⟩ : ∃ W3, W3 = (w.alloc (.cells #[.bool false, .slice A n c] 43)) := ⟨_, rfl⟩
  have hB : Below w.heap.size w W3 := by rw [hW3]; exact ((Below.refl _ _).alloc (Nat.le_refl _) _)
  have HBW := Lib.hid hB
  have HF := Lib.hid (show Two W3 (w.heap.size) (.bool false) (.slice A n c) 43 by rw [hW3]; exact (Two.newAt _ _ _ _ _ (by simp)))
  clear hB
  go_enter Tryz.func25, Tryz.ntmps25
  go_wp2_with fail
  rw [← hW3]
  clear hW3
  by_cases hle : m0 ≤ 4611686018427387904
  · have hsg := hsg1 (by omega)
    have d1 : decide (0 < sg) = false := decide_eq_false (by omega)
    have HRV := Lib.hid (hrv1 (by omega))
    clear hsg1 hsg2 hrv1 hrv2 hsg
    refine Lex.wp_region_lex (fun w' => Two w' w.heap.size (.bool false) (.slice A n c) 43) (fun _ => true)
      [(0, true), (1, true), (2, false), (3, false), (4, false), (5, false)]
      (by kernel_rfl) (by kernel_rfl) (by kernel_rfl) (by kernel_rfl) HF.out ?_
    iterate 2 (refine Lex.lex_take (v := ?_) rfl rfl (by rfl) (fun _ hS => ?_) ?_; rotate_left 1; (focus (have g0_0 := hS.cell0; have g0_1 := hS.cell1; clear hS; go_simp; with_reducible rfl)); simp only [List.setIfInBounds_toArray, List.set_cons_zero, List.set_cons_succ])
    refine Lex.lex_do rfl ?_
    have hb0 : Below W3.heap.size W3 W3.drew := ⟨rfl, rfl, rfl, Nat.le_refl _, fun _ _ => rfl⟩
    have hw0 : Below w.heap.size w W3.drew := ⟨HBW.out.os, HBW.out.tape, HBW.out.output, HBW.out.size, HBW.out.block⟩
    generalize hV0 : W3.drew = V0 at *
    clear hV0
    have cc := ci V0 hw0
    go_wp2_with fail
    refine cc.mono ?_
    rintro e V1 ⟨v1, rfl, hm1, hn1⟩
    have hb1 := hb0.trans (hn1.mono hb0.size)
    have hw1 := hw0.trans (hn1.mono hw0.size)
    clear cc hb0 hw0 hn1
    go_wp2_with fail
    have E0 := HF.out.below hb1 HF.out.lt
    refine Lex.lexQ_normal (fun _ => E0) ?_
    refine Lex.lex_do rfl ?_
    clear E0
    obtain ⟨A5, n5, c5, rfl, hm5⟩ := hm1.pos' (by omega)
    have hfd := fun W => field_Z1 false A5 n5 c5 W
    go_wp2_with fail
    have E0 := HF.out.below hb1 HF.out.lt
    refine Lex.lexQ_normal (fun _ => E0) ?_
    refine Lex.lex_do rfl ?_
    clear E0
    clear hfd
    have cc := cs V1 hw1 _ hm5
    go_wp2_with fail
    refine cc.mono ?_
    rintro e V2 ⟨v2, rfl, hm2, hn2⟩
    have hb2 := hb1.trans (hn2.mono hb1.size)
    have hw2 := hw1.trans (hn2.mono hw1.size)
    clear cc hb1 hw1 hn2
    go_wp2_with fail
    have E0 := HF.out.below hb2 HF.out.lt
    refine Lex.lexQ_normal (fun _ => E0) ?_
    refine Lex.lex_do rfl ?_
    clear E0
    subst hm2
    clear hm1 hm5
    go_wp2_with fail
    refine Lex.lexQ_normal (fun _ => (HF.out.below hb2 HF.out.lt)) ?_
    refine Lex.lex_nil ?_
    have k0 := (HF.out.below hb2 HF.out.lt).cell0
    have k1 := (HF.out.below hb2 HF.out.lt).cell1
    have HI2 := Lib.hid (HI.out.below hw2)
    have HWE := Lib.hid hw2
    clear hb2 hw2 d1
    go_wp2
    go_loopw [4, 5] (fun v i wr => ∃ k : Nat, k ≤ n ∧ i = .int .i64 ((k : Int) - 1) ∧ v = .int .i64 (DG.dv DG.b4 (xs.drop k)) ∧ V2 = wr) (fun _ i _ => (intOf i + 1).toNat)
    case atStart => exact ⟨n, Nat.le_refl _, rfl, by rw [List.drop_of_length_le (by rw [HL.out]; exact Nat.le_refl _)]; rfl, rfl⟩
    case round =>
      obtain ⟨k, hk, rfl, rfl, rfl⟩ := hrel
      cases k with
      | zero =>
        have hdv : DG.dv DG.b4 (xs.drop 0) = m0 := by rw [List.drop_zero]; exact HV.out
        rw [hdv]
        clear hdv
        have d2 : decide ((0 : Int) ≤ ((0 : Nat) : Int) - 1) = false := rfl
        have u1 : IntKind.i64.wrap (-m0) = -m0 := IntWalk.i64_in _ (by omega)
        go_wp2
        refine bodyPost_ret (v := .tuple #[.int .i64 m0, .bool true]) (by simp [results, Tryz.results25, go_sem]) rfl ⟨by rw [HRV.out], HWE.out⟩
      | succ k =>
        rw [show ((k + 1 : Nat) : Int) - 1 = (k : Int) from by omega]
        obtain ⟨b1, o1, rfl, hl1, hc1⟩ := HI2.out.get (k := k) (by rw [HL.out]; omega)
        rw [HXG.out k (by rw [HL.out]; omega)] at hc1
        have hx := HX.out k
        have e1 := HDR.out k (by rw [HL.out]; omega)
        have h1 := HHO.out k
        have h2 := HHO.out (k + 1)
        rw [show DG.b4 = 10000 from rfl] at hx
        have HE := Lib.hid (show xs.getD k 0 + 10000 * DG.dv DG.b4 (xs.drop (k + 1)) = DG.dv DG.b4 (xs.drop k) from e1.symm)
        have e2 : 0 ≤ xs.getD k 0 + 10000 * DG.dv DG.b4 (xs.drop (k + 1)) ∧ xs.getD k 0 + 10000 * DG.dv DG.b4 (xs.drop (k + 1)) ≤ 4611686018427387904 := by rw [HE.out]; omega
        clear e1
        generalize DG.dv DG.b4 (xs.drop (k + 1)) = a at *
        generalize xs.getD k 0 = x at *
        have i1 : (k : Int) < (n : Int) := by omega
        have u1 : IntKind.i64.wrap (a * 10000) = a * 10000 := IntWalk.i64_in _ (by omega)
        have u2 : IntKind.i64.wrap (a * 10000 + x) = a * 10000 + x := IntWalk.i64_in _ (by omega)
        go_wp2
        go_roundw
        case rel => exact ⟨k, by omega, by go_num, by first | (have := HE.out; omega) | (congr 1; have := HE.out; omega), by trivial⟩
        case measure => simp [intOf]
  · have hsg := hsg2 (by omega)
    have d1 : decide (0 < sg) = true := decide_eq_true (by omega)
    have HRV := Lib.hid (hrv2 (by omega))
    clear hsg1 hsg2 hrv1 hrv2 hsg
    refine Lex.wp_region_lex (fun w' => Two w' w.heap.size (.bool false) (.slice A n c) 43) (fun _ => true)
      [(0, true), (1, true), (2, false), (3, false), (4, false), (5, false)]
      (by kernel_rfl) (by kernel_rfl) (by kernel_rfl) (by kernel_rfl) HF.out ?_
    iterate 2 (refine Lex.lex_take (v := ?_) rfl rfl (by rfl) (fun _ hS => ?_) ?_; rotate_left 1; (focus (have g0_0 := hS.cell0; have g0_1 := hS.cell1; clear hS; go_simp; with_reducible rfl)); simp only [List.setIfInBounds_toArray, List.set_cons_zero, List.set_cons_succ])
    refine Lex.lex_do rfl ?_
    have hb0 : Below W3.heap.size W3 W3.drew := ⟨rfl, rfl, rfl, Nat.le_refl _, fun _ _ => rfl⟩
    have hw0 : Below w.heap.size w W3.drew := ⟨HBW.out.os, HBW.out.tape, HBW.out.output, HBW.out.size, HBW.out.block⟩
    generalize hV0 : W3.drew = V0 at *
    clear hV0
    have cc := ci V0 hw0
    go_wp2_with fail
    refine cc.mono ?_
    rintro e V1 ⟨v1, rfl, hm1, hn1⟩
    have hb1 := hb0.trans (hn1.mono hb0.size)
    have hw1 := hw0.trans (hn1.mono hw0.size)
    clear cc hb0 hw0 hn1
    go_wp2_with fail
    have E0 := HF.out.below hb1 HF.out.lt
    refine Lex.lexQ_normal (fun _ => E0) ?_
    refine Lex.lex_do rfl ?_
    clear E0
    obtain ⟨A5, n5, c5, rfl, hm5⟩ := hm1.pos' (by omega)
    have hfd := fun W => field_Z1 false A5 n5 c5 W
    go_wp2_with fail
    have E0 := HF.out.below hb1 HF.out.lt
    refine Lex.lexQ_normal (fun _ => E0) ?_
    refine Lex.lex_do rfl ?_
    clear E0
    clear hfd
    have cc := cs V1 hw1 _ hm5
    go_wp2_with fail
    refine cc.mono ?_
    rintro e V2 ⟨v2, rfl, hm2, hn2⟩
    have hb2 := hb1.trans (hn2.mono hb1.size)
    have hw2 := hw1.trans (hn2.mono hw1.size)
    clear cc hb1 hw1 hn2
    go_wp2_with fail
    have E0 := HF.out.below hb2 HF.out.lt
    refine Lex.lexQ_normal (fun _ => E0) ?_
    refine Lex.lex_do rfl ?_
    clear E0
    subst hm2
    clear hm1 hm5
    go_wp2_with fail
    refine Lex.lexQ_normal (fun _ => (HF.out.below hb2 HF.out.lt)) ?_
    refine Lex.lex_nil ?_
    go_wp2
    refine bodyPost_ret (v := .tuple #[.int .i64 0, .bool false]) (by simp [results, Tryz.results25, go_sem]) rfl ⟨by rw [HRV.out], hw2⟩

set_option maxRecDepth 100000 in
set_option maxHeartbeats 1600000 in
theorem rsmall_true (A : Option Addr) (n c : Nat) (m0 : Int) (N : Nat) (w : World) (hv : RMag w (.slice A n c) m0 N) (hN : N ≤ 900) (hp : 0 < m0) :
    Calls Tryz.prog 25 #[.agg #[.bool true, .slice A n c]] w (RetV (smallV (-m0)) w) := by
  have hnn := hv.nonneg
  have ci := fun W (_ : Below w.heap.size w W) => rint_any 4611686018427387904 W ⟨by omega, by omega⟩
  have cs : ∀ W (_ : Below w.heap.size w W) v1, RMag W v1 4611686018427387904 5 → Calls Tryz.prog 46 #[.slice A n c, v1] W (RetW (.int .i64 (sgn (m0 - 4611686018427387904))) W) := fun W hb v1 h => (rsizes_any (hv.below hb) h (by omega) (by omega)).mono fun e w' ⟨h1, z, h2⟩ => ⟨_, h1, rfl, by rw [h2]; exact ⟨rfl, rfl, rfl, Nat.le_refl _, fun _ _ => rfl⟩⟩
  obtain ⟨A', n', c', xs, e', hl, hnc, hcm, hA0, hI, hD, hNo, hval, hNn⟩ := hv
  cases e'
  have hho := fun i => DG.horner_le hD i
  rw [hval] at hho
  have hdr := fun (i : Nat) h => DG.dv_drop DG.b4 (l := xs) (i := i) h
  have HXG := Lib.hid (fun (i : Nat) (h : i < xs.length) => (show xs[i]'h = xs.getD i 0 by simp [List.getD, h]))
  have HX := Lib.hid (fun i => hD.getD DG.b4_one i)
  have HL := Lib.hid hl
  have HV := Lib.hid hval
  have HHO := Lib.hid hho
  have HDR := Lib.hid hdr
  have HI := Lib.hid hI
  have hsg1 : m0 ≤ 4611686018427387904 → sgn (m0 - 4611686018427387904) ≤ 0 := fun h => by unfold sgn; split <;> (try split) <;> omega
  have hsg2 : ¬ m0 ≤ 4611686018427387904 → 0 < sgn (m0 - 4611686018427387904) := fun h => by unfold sgn; split <;> (try split) <;> omega
  have hrv1 : m0 ≤ 4611686018427387904 → smallV (-m0) = .tuple #[.int .i64 (-m0), .bool true] := fun h => by unfold smallV; rw [if_pos (by omega)]
  have hrv2 : ¬ m0 ≤ 4611686018427387904 → smallV (-m0) = .tuple #[.int .i64 0, .bool false] := fun h => by unfold smallV; rw [if_neg (by omega)]
  generalize smallV (-m0) = rv at *
  generalize sgn (m0 - 4611686018427387904) = sg at *
  clear hho hdr hl hval hI hD hNo
  obtain ⟨W3, hW3⟩ : ∃ W3, W3 = (w.alloc (.cells #[.bool true, .slice A n c] 43)) := ⟨_, rfl⟩
  have hB : Below w.heap.size w W3 := by rw [hW3]; exact ((Below.refl _ _).alloc (Nat.le_refl _) _)
  have HBW := Lib.hid hB
  have HF := Lib.hid (show Two W3 (w.heap.size) (.bool true) (.slice A n c) 43 by rw [hW3]; exact (Two.newAt _ _ _ _ _ (by simp)))
  clear hB
  go_enter Tryz.func25, Tryz.ntmps25
  go_wp2_with fail
  rw [← hW3]
  clear hW3
  by_cases hle : m0 ≤ 4611686018427387904
  · have hsg := hsg1 (by omega)
    have d1 : decide (0 < sg) = false := decide_eq_false (by omega)
    have HRV := Lib.hid (hrv1 (by omega))
    clear hsg1 hsg2 hrv1 hrv2 hsg
    refine Lex.wp_region_lex (fun w' => Two w' w.heap.size (.bool true) (.slice A n c) 43) (fun _ => true)
      [(0, true), (1, true), (2, false), (3, false), (4, false), (5, false)]
      (by kernel_rfl) (by kernel_rfl) (by kernel_rfl) (by kernel_rfl) HF.out ?_
    iterate 2 (refine Lex.lex_take (v := ?_) rfl rfl (by rfl) (fun _ hS => ?_) ?_; rotate_left 1; (focus (have g0_0 := hS.cell0; have g0_1 := hS.cell1; clear hS; go_simp; with_reducible rfl)); simp only [List.setIfInBounds_toArray, List.set_cons_zero, List.set_cons_succ])
    refine Lex.lex_do rfl ?_
    have hb0 : Below W3.heap.size W3 W3.drew := ⟨rfl, rfl, rfl, Nat.le_refl _, fun _ _ => rfl⟩
    have hw0 : Below w.heap.size w W3.drew := ⟨HBW.out.os, HBW.out.tape, HBW.out.output, HBW.out.size, HBW.out.block⟩
    generalize hV0 : W3.drew = V0 at *
    clear hV0
    have cc := ci V0 hw0
    go_wp2_with fail
    refine cc.mono ?_
    rintro e V1 ⟨v1, rfl, hm1, hn1⟩
    have hb1 := hb0.trans (hn1.mono hb0.size)
    have hw1 := hw0.trans (hn1.mono hw0.size)
    clear cc hb0 hw0 hn1
    go_wp2_with fail
    have E0 := HF.out.below hb1 HF.out.lt
    refine Lex.lexQ_normal (fun _ => E0) ?_
    refine Lex.lex_do rfl ?_
    clear E0
    obtain ⟨A5, n5, c5, rfl, hm5⟩ := hm1.pos' (by omega)
    have hfd := fun W => field_Z1 false A5 n5 c5 W
    go_wp2_with fail
    have E0 := HF.out.below hb1 HF.out.lt
    refine Lex.lexQ_normal (fun _ => E0) ?_
    refine Lex.lex_do rfl ?_
    clear E0
    clear hfd
    have cc := cs V1 hw1 _ hm5
    go_wp2_with fail
    refine cc.mono ?_
    rintro e V2 ⟨v2, rfl, hm2, hn2⟩
    have hb2 := hb1.trans (hn2.mono hb1.size)
    have hw2 := hw1.trans (hn2.mono hw1.size)
    clear cc hb1 hw1 hn2
    go_wp2_with fail
    have E0 := HF.out.below hb2 HF.out.lt
    refine Lex.lexQ_normal (fun _ => E0) ?_
    refine Lex.lex_do rfl ?_
    clear E0
    subst hm2
    clear hm1 hm5
    go_wp2_with fail
    refine Lex.lexQ_normal (fun _ => (HF.out.below hb2 HF.out.lt)) ?_
    refine Lex.lex_nil ?_
    have k0 := (HF.out.below hb2 HF.out.lt).cell0
    have k1 := (HF.out.below hb2 HF.out.lt).cell1
    have HI2 := Lib.hid (HI.out.below hw2)
    have HWE := Lib.hid hw2
    clear hb2 hw2 d1
    go_wp2
    go_loopw [4, 5] (fun v i wr => ∃ k : Nat, k ≤ n ∧ i = .int .i64 ((k : Int) - 1) ∧ v = .int .i64 (DG.dv DG.b4 (xs.drop k)) ∧ V2 = wr) (fun _ i _ => (intOf i + 1).toNat)
    case atStart => exact ⟨n, Nat.le_refl _, rfl, by rw [List.drop_of_length_le (by rw [HL.out]; exact Nat.le_refl _)]; rfl, rfl⟩
    case round =>
      obtain ⟨k, hk, rfl, rfl, rfl⟩ := hrel
      cases k with
      | zero =>
        have hdv : DG.dv DG.b4 (xs.drop 0) = m0 := by rw [List.drop_zero]; exact HV.out
        rw [hdv]
        clear hdv
        have d2 : decide ((0 : Int) ≤ ((0 : Nat) : Int) - 1) = false := rfl
        have u1 : IntKind.i64.wrap (-m0) = -m0 := IntWalk.i64_in _ (by omega)
        go_wp2
        refine bodyPost_ret (v := .tuple #[.int .i64 (-m0), .bool true]) (by simp [results, Tryz.results25, go_sem]) rfl ⟨by rw [HRV.out], HWE.out⟩
      | succ k =>
        rw [show ((k + 1 : Nat) : Int) - 1 = (k : Int) from by omega]
        obtain ⟨b1, o1, rfl, hl1, hc1⟩ := HI2.out.get (k := k) (by rw [HL.out]; omega)
        rw [HXG.out k (by rw [HL.out]; omega)] at hc1
        have hx := HX.out k
        have e1 := HDR.out k (by rw [HL.out]; omega)
        have h1 := HHO.out k
        have h2 := HHO.out (k + 1)
        rw [show DG.b4 = 10000 from rfl] at hx
        have HE := Lib.hid (show xs.getD k 0 + 10000 * DG.dv DG.b4 (xs.drop (k + 1)) = DG.dv DG.b4 (xs.drop k) from e1.symm)
        have e2 : 0 ≤ xs.getD k 0 + 10000 * DG.dv DG.b4 (xs.drop (k + 1)) ∧ xs.getD k 0 + 10000 * DG.dv DG.b4 (xs.drop (k + 1)) ≤ 4611686018427387904 := by rw [HE.out]; omega
        clear e1
        generalize DG.dv DG.b4 (xs.drop (k + 1)) = a at *
        generalize xs.getD k 0 = x at *
        have i1 : (k : Int) < (n : Int) := by omega
        have u1 : IntKind.i64.wrap (a * 10000) = a * 10000 := IntWalk.i64_in _ (by omega)
        have u2 : IntKind.i64.wrap (a * 10000 + x) = a * 10000 + x := IntWalk.i64_in _ (by omega)
        go_wp2
        go_roundw
        case rel => exact ⟨k, by omega, by go_num, by first | (have := HE.out; omega) | (congr 1; have := HE.out; omega), by trivial⟩
        case measure => simp [intOf]
  · have hsg := hsg2 (by omega)
    have d1 : decide (0 < sg) = true := decide_eq_true (by omega)
    have HRV := Lib.hid (hrv2 (by omega))
    clear hsg1 hsg2 hrv1 hrv2 hsg
    refine Lex.wp_region_lex (fun w' => Two w' w.heap.size (.bool true) (.slice A n c) 43) (fun _ => true)
      [(0, true), (1, true), (2, false), (3, false), (4, false), (5, false)]
      (by kernel_rfl) (by kernel_rfl) (by kernel_rfl) (by kernel_rfl) HF.out ?_
    iterate 2 (refine Lex.lex_take (v := ?_) rfl rfl (by rfl) (fun _ hS => ?_) ?_; rotate_left 1; (focus (have g0_0 := hS.cell0; have g0_1 := hS.cell1; clear hS; go_simp; with_reducible rfl)); simp only [List.setIfInBounds_toArray, List.set_cons_zero, List.set_cons_succ])
    refine Lex.lex_do rfl ?_
    have hb0 : Below W3.heap.size W3 W3.drew := ⟨rfl, rfl, rfl, Nat.le_refl _, fun _ _ => rfl⟩
    have hw0 : Below w.heap.size w W3.drew := ⟨HBW.out.os, HBW.out.tape, HBW.out.output, HBW.out.size, HBW.out.block⟩
    generalize hV0 : W3.drew = V0 at *
    clear hV0
    have cc := ci V0 hw0
    go_wp2_with fail
    refine cc.mono ?_
    rintro e V1 ⟨v1, rfl, hm1, hn1⟩
    have hb1 := hb0.trans (hn1.mono hb0.size)
    have hw1 := hw0.trans (hn1.mono hw0.size)
    clear cc hb0 hw0 hn1
    go_wp2_with fail
    have E0 := HF.out.below hb1 HF.out.lt
    refine Lex.lexQ_normal (fun _ => E0) ?_
    refine Lex.lex_do rfl ?_
    clear E0
    obtain ⟨A5, n5, c5, rfl, hm5⟩ := hm1.pos' (by omega)
    have hfd := fun W => field_Z1 false A5 n5 c5 W
    go_wp2_with fail
    have E0 := HF.out.below hb1 HF.out.lt
    refine Lex.lexQ_normal (fun _ => E0) ?_
    refine Lex.lex_do rfl ?_
    clear E0
    clear hfd
    have cc := cs V1 hw1 _ hm5
    go_wp2_with fail
    refine cc.mono ?_
    rintro e V2 ⟨v2, rfl, hm2, hn2⟩
    have hb2 := hb1.trans (hn2.mono hb1.size)
    have hw2 := hw1.trans (hn2.mono hw1.size)
    clear cc hb1 hw1 hn2
    go_wp2_with fail
    have E0 := HF.out.below hb2 HF.out.lt
    refine Lex.lexQ_normal (fun _ => E0) ?_
    refine Lex.lex_do rfl ?_
    clear E0
    subst hm2
    clear hm1 hm5
    go_wp2_with fail
    refine Lex.lexQ_normal (fun _ => (HF.out.below hb2 HF.out.lt)) ?_
    refine Lex.lex_nil ?_
    go_wp2
    refine bodyPost_ret (v := .tuple #[.int .i64 0, .bool false]) (by simp [results, Tryz.results25, go_sem]) rfl ⟨by rw [HRV.out], hw2⟩

theorem rsmall_any {w : World} {v : Value} {z : Int} {N : Nat} (hv : IsR w v z N) (hN : N ≤ 900) : Calls Tryz.prog 25 #[v] w (RetV (smallV z) w) := by
  obtain ⟨neg, A, n, c, m, rfl, hm, hz, hp, -⟩ := hv.open'
  cases neg with
  | false => simp at hz; subst hz; exact rsmall_false A n c _ N w hm hN
  | true => simp at hz; subst hz; exact rsmall_true A n c _ N w hm hN (hp rfl)

set_option maxRecDepth 100000 in
set_option maxHeartbeats 1600000 in
theorem rvalid_yes (p q : Int) (w : World) (h1 : 1 ≤ q) (h2 : q ≤ 4611686018427387904) (h3 : -4611686018427387904 ≤ p) (h4 : p ≤ 4611686018427387904) :
    Calls Tryz.prog 8 #[.agg #[.int .i64 p, .int .i64 q]] w (RetV (.bool (decide (Int.gcd p q = 1))) w) := by
  have c1 := fun W (_ : Below w.heap.size w W) => rint_any p W ⟨by omega, by omega⟩
  have c2 := fun W (_ : Below w.heap.size w W) => rint_any q W ⟨by omega, by omega⟩
  have c3 := fun W (_ : Below w.heap.size w W) => rint_any 1 W ⟨by omega, by omega⟩
  have cg : ∀ W (_ : Below w.heap.size w W) v1 v2, IsR W v1 p 5 → IsR W v2 q 5 → Calls Tryz.prog 19 #[v1, v2] W (RetR ((Int.gcd p q : Nat) : Int) 5 W) := fun W _ v1 v2 g1 g2 => rgcd_any g1 g2 (by omega)
  have hpos : (0 : Int) ≤ ((Int.gcd p q : Nat) : Int) := by omega
  have hd : decide (Int.gcd p q = 1) = (sgn (((Int.gcd p q : Nat) : Int) - 1) == 0) := by
    unfold sgn
    by_cases h : Int.gcd p q = 1
    · rw [h]; rfl
    · rw [decide_eq_false h, if_neg (by
        have : 0 < Int.gcd p q := Int.gcd_pos_of_ne_zero_right _ (by omega)
        omega), if_neg (by omega)]; rfl
  rw [hd]
  generalize ((Int.gcd p q : Nat) : Int) = g at *
  have cc : ∀ W (_ : Below w.heap.size w W) v1 v2, IsR W v1 g 5 → IsR W v2 1 5 → Calls Tryz.prog 18 #[v1, v2] W (RetW (.int .i64 (sgn (g - 1))) W) := fun W _ v1 v2 g1 g2 => (rcmpz_any g1 g2 (by omega) (by omega)).mono fun e w' h => RetW.of h
  generalize sgn (g - 1) = sg at *
  clear hd hpos
  have d1 : decide (q < 1) = false := decide_eq_false (by omega)
  have d2 : decide (4611686018427387904 < q) = false := decide_eq_false (by omega)
  have d3 : decide (p < -4611686018427387904) = false := decide_eq_false (by omega)
  have d4 : decide (4611686018427387904 < p) = false := decide_eq_false (by omega)
  obtain ⟨W3, hW3⟩ : ∃ W3, W3 = (w.alloc (.cells #[.int .i64 p, .int .i64 q] 23)) := ⟨_, rfl⟩
  have hB : Below w.heap.size w W3 := by rw [hW3]; exact ((Below.refl _ _).alloc (Nat.le_refl _) _)
  have HBW := Lib.hid hB
  have HF := Lib.hid (show Two W3 (w.heap.size) (.int .i64 p) (.int .i64 q) 23 by rw [hW3]; exact (Two.newAt _ _ _ _ _ (by simp)))
  clear hB
  go_enter Tryz.func8, Tryz.ntmps8
  go_upto_region 1 with fail
  rw [← hW3]
  clear hW3
  have k0 := HF.out.cell0
  have k1 := HF.out.cell1
  go_upto_region 3 with fail
  clear k0 k1
  refine Lex.wp_region_lex (fun w' => Two w' w.heap.size (.int .i64 p) (.int .i64 q) 23) (fun j => j != 10)
    [(0, true), (1, true), (3, true), (4, true), (2, false), (5, false), (6, false), (7, false), (8, false), (9, false), (10, false)]
    (by kernel_rfl) (by kernel_rfl) (by kernel_rfl) (by kernel_rfl) HF.out ?_
  iterate 4 (refine Lex.lex_take (v := ?_) rfl rfl (by rfl) (fun _ hS => ?_) ?_; rotate_left 1; (focus (have g0_0 := hS.cell0; have g0_1 := hS.cell1; clear hS; go_simp; with_reducible rfl)); simp only [List.setIfInBounds_toArray, List.set_cons_zero, List.set_cons_succ])
  refine Lex.lex_do rfl ?_
  have hb0 : Below W3.heap.size W3 W3.drew := ⟨rfl, rfl, rfl, Nat.le_refl _, fun _ _ => rfl⟩
  have hw0 : Below w.heap.size w W3.drew := ⟨HBW.out.os, HBW.out.tape, HBW.out.output, HBW.out.size, HBW.out.block⟩
  generalize hV0 : W3.drew = V0 at *
  clear hV0
  have cc := c1 V0 hw0
  go_wp2_with fail
  refine cc.mono ?_
  rintro e V1 ⟨v1, rfl, hm1, hn1⟩
  have hb1 := hb0.trans (hn1.mono hb0.size)
  have hw1 := hw0.trans (hn1.mono hw0.size)
  clear cc hb0 hw0 hn1
  go_wp2_with fail
  have E0 := HF.out.below hb1 HF.out.lt
  refine Lex.lexQ_normal (fun _ => E0) ?_
  refine Lex.lex_do rfl ?_
  clear E0
  have cc := c2 V1 hw1
  go_wp2_with fail
  refine cc.mono ?_
  rintro e V2 ⟨v2, rfl, hm2, hn2⟩
  have hb2 := hb1.trans (hn2.mono hb1.size)
  have hw2 := hw1.trans (hn2.mono hw1.size)
  have hm1 := hm1.below hn2
  clear cc hb1 hw1 hn2
  go_wp2_with fail
  have E0 := HF.out.below hb2 HF.out.lt
  refine Lex.lexQ_normal (fun _ => E0) ?_
  refine Lex.lex_do rfl ?_
  clear E0
  have cc := cg V2 hw2 _ _ hm1 hm2
  go_wp2_with fail
  refine cc.mono ?_
  rintro e V3 ⟨v3, rfl, hm3, hn3⟩
  have hb3 := hb2.trans (hn3.mono hb2.size)
  have hw3 := hw2.trans (hn3.mono hw2.size)
  clear hm1 hm2
  clear cc hb2 hw2 hn3
  go_wp2_with fail
  have E0 := HF.out.below hb3 HF.out.lt
  refine Lex.lexQ_normal (fun _ => E0) ?_
  refine Lex.lex_do rfl ?_
  clear E0
  have cc := c3 V3 hw3
  go_wp2_with fail
  refine cc.mono ?_
  rintro e V4 ⟨v4, rfl, hm4, hn4⟩
  have hb4 := hb3.trans (hn4.mono hb3.size)
  have hw4 := hw3.trans (hn4.mono hw3.size)
  have hm3 := hm3.below hn4
  clear cc hb3 hw3 hn4
  go_wp2_with fail
  have E0 := HF.out.below hb4 HF.out.lt
  refine Lex.lexQ_normal (fun _ => E0) ?_
  refine Lex.lex_do rfl ?_
  clear E0
  have cc := cc V4 hw4 _ _ hm3 hm4
  go_wp2_with fail
  refine cc.mono ?_
  rintro e V5 ⟨v5, rfl, hm5, hn5⟩
  have hb5 := hb4.trans (hn5.mono hb4.size)
  have hw5 := hw4.trans (hn5.mono hw4.size)
  clear cc hb4 hw4 hn5
  go_wp2_with fail
  have E0 := HF.out.below hb5 HF.out.lt
  refine Lex.lexQ_normal (fun _ => E0) ?_
  refine Lex.lex_do rfl ?_
  clear E0
  subst hm5
  clear hm3 hm4
  go_wp2_with fail
  have E0 := HF.out.below hb5 HF.out.lt
  refine Lex.lexQ_normal (fun _ => E0) ?_
  refine Lex.lex_do rfl ?_
  clear E0
  go_wp2_with fail
  refine Lex.lexQ_normal (fun h => absurd h (by decide)) ?_
  refine Lex.lex_nil ?_
  go_wp2
  go_ret
  exact ⟨rfl, hw5⟩

set_option maxRecDepth 100000 in
set_option maxHeartbeats 1600000 in
theorem rvalid_noa (p q : Int) (w : World) (h : q < 1) :
    Calls Tryz.prog 8 #[.agg #[.int .i64 p, .int .i64 q]] w (RetV (.bool false) w) := by
  have d0 : decide (q < 1) = true := decide_eq_true (by omega)
  clear h
  go_enter Tryz.func8, Tryz.ntmps8
  go_wp2
  go_ret
  exact ⟨rfl, (Below.refl _ _).alloc (Nat.le_refl _) _⟩

set_option maxRecDepth 100000 in
set_option maxHeartbeats 1600000 in
theorem rvalid_nob (p q : Int) (w : World) (h : 4611686018427387904 < q) :
    Calls Tryz.prog 8 #[.agg #[.int .i64 p, .int .i64 q]] w (RetV (.bool false) w) := by
  have d0 : decide (q < 1) = false := decide_eq_false (by omega)
  have d1 : decide (4611686018427387904 < q) = true := decide_eq_true (by omega)
  clear h
  go_enter Tryz.func8, Tryz.ntmps8
  go_wp2
  go_ret
  exact ⟨rfl, (Below.refl _ _).alloc (Nat.le_refl _) _⟩

set_option maxRecDepth 100000 in
set_option maxHeartbeats 1600000 in
theorem rvalid_noc (p q : Int) (w : World) (h : (1 ≤ q ∧ q ≤ 4611686018427387904) ∧ p < -4611686018427387904) :
    Calls Tryz.prog 8 #[.agg #[.int .i64 p, .int .i64 q]] w (RetV (.bool false) w) := by
  have d0 : decide (q < 1) = false := decide_eq_false (by omega)
  have d1 : decide (4611686018427387904 < q) = false := decide_eq_false (by omega)
  have d2 : decide (p < -4611686018427387904) = true := decide_eq_true (by omega)
  clear h
  go_enter Tryz.func8, Tryz.ntmps8
  go_wp2
  go_ret
  exact ⟨rfl, (Below.refl _ _).alloc (Nat.le_refl _) _⟩

set_option maxRecDepth 100000 in
set_option maxHeartbeats 1600000 in
theorem rvalid_nod (p q : Int) (w : World) (h : (1 ≤ q ∧ q ≤ 4611686018427387904) ∧ -4611686018427387904 ≤ p ∧ 4611686018427387904 < p) :
    Calls Tryz.prog 8 #[.agg #[.int .i64 p, .int .i64 q]] w (RetV (.bool false) w) := by
  have d0 : decide (q < 1) = false := decide_eq_false (by omega)
  have d1 : decide (4611686018427387904 < q) = false := decide_eq_false (by omega)
  have d2 : decide (p < -4611686018427387904) = false := decide_eq_false (by omega)
  have d3 : decide (4611686018427387904 < p) = true := decide_eq_true (by omega)
  clear h
  go_enter Tryz.func8, Tryz.ntmps8
  go_wp2
  go_ret
  exact ⟨rfl, (Below.refl _ _).alloc (Nat.le_refl _) _⟩

theorem rvalid_any (p q : Int) (w : World) : Calls Tryz.prog 8 #[.agg #[.int .i64 p, .int .i64 q]] w (RetV (.bool (decide (FOk (p, q)))) w) := by
  by_cases h1 : q < 1
  · rw [decide_eq_false (by intro h; have := h.1; simp at this; omega)]; exact rvalid_noa p q w h1
  · by_cases h2 : 4611686018427387904 < q
    · rw [decide_eq_false (by intro h; have := h.2.1; simp at this; omega)]; exact rvalid_nob p q w h2
    · by_cases h3 : p < -4611686018427387904
      · rw [decide_eq_false (by intro h; have := h.2.2.1; simp at this; omega)]; exact rvalid_noc p q w ⟨⟨by omega, by omega⟩, h3⟩
      · by_cases h4 : 4611686018427387904 < p
        · rw [decide_eq_false (by intro h; have := h.2.2.1; simp at this; omega)]; exact rvalid_nod p q w ⟨⟨by omega, by omega⟩, by omega, h4⟩
        · have := rvalid_yes p q w (by omega) (by omega) (by omega) (by omega)
          rwa [show decide (Int.gcd p q = 1) = decide (FOk (p, q)) from decide_eq_decide.2 ⟨fun h => ⟨by show 1 ≤ q; omega, by show q ≤ 4611686018427387904; omega, by show p.natAbs ≤ 4611686018427387904; omega, h⟩, fun h => h.2.2.2⟩] at this
end Go.Proofs.YtklngjjokbhfpaaGreatDoor
