/- gear's Text and Floor, ref's Text (printed by genyc.py). -/
import Derived.Test.YtklngjjokbhfpaaGreatDoorYb
import Derived.Test.YtklngjjokbhfpaaGreatDoorEv
namespace Go.Proofs.YtklngjjokbhfpaaGreatDoor
open Go.RowKit Go.Lib

/-- Itoa in every later world. -/
def ItoaOk (w : World) : Prop := ∀ W, Below w.heap.size w W → ∀ n, I64 n → Calls Tryz.prog 17 #[.int .i64 n] W (RetW (.string ⟨(itoa n).toArray⟩) W)
theorem ItoaOk.below {w w' : World} (h : ItoaOk w) (hb : Below w.heap.size w w') : ItoaOk w' := fun W hb' => h W (hb.trans (hb'.mono hb.size))
theorem itoa_len {n : Int} (h : I64 n) : (itoa n).length ≤ 20 := by
  unfold I64 at h
  unfold itoa
  split
  · have := dec_len 18 n.natAbs (by omega)
    simp only [List.length_cons]; omega
  · have := dec_len 18 n.toNat (by omega)
    omega
theorem textM_len {n d : Int} (hn : I64 n) (hd : I64 d) : (textM n d).length ≤ 41 := by
  unfold textM
  have h1 := itoa_len hn
  have h2 := itoa_len hd
  rw [List.length_append]
  split
  · simp; omega
  · simp only [List.length_cons]; omega

set_option maxRecDepth 100000 in
set_option maxHeartbeats 1600000 in
theorem gtext_bad (n d : Int) (w : World) (hn : I64 n) (hd : I64 d) (h : ¬ FOk (n, d)) : Calls Tryz.prog 7 #[.agg #[.int .i64 n, .int .i64 d]] w (RetV (.tuple #[.string ⟨([] : List UInt8).toArray⟩, .int .i64 2]) w) := by
  have cv := fun W => valid_one hn hd false (decide_eq_false h) W
  clear hn hd h
  obtain ⟨W3, hW3⟩ : ∃ W3, W3 = w.alloc (.cells #[.int .i64 n, .int .i64 d] 23) := ⟨_, rfl⟩
  have hB : Below w.heap.size w W3 := by rw [hW3]; exact (Below.refl _ _).alloc (Nat.le_refl _) _
  have HBW := Lib.hid hB
  have HF := Lib.hid (show Two W3 w.heap.size (.int .i64 n) (.int .i64 d) 23 by rw [hW3]; exact Two.newAt _ _ _ _ _ rfl)
  clear hB
  go_enter Tryz.func7, Tryz.ntmps7
  go_upto_region 1 with fail
  rw [← hW3]
  clear hW3
  have k0 := HF.out.cell0
  have k1 := HF.out.cell1
  have cc := cv W3
  go_wp2_with fail
  refine cc.mono ?_
  rintro e V1 ⟨v1, rfl, rfl, hn1⟩
  have HB1 := Lib.hid (HBW.out.trans (hn1.mono HBW.out.size))
  have HF1 := Lib.hid (HF.out.below hn1 HF.out.lt)
  clear cc hn1 k0 k1 HF HBW cv
  go_wp2
  exact bodyPost_ret (v := .tuple #[.string ⟨([] : List UInt8).toArray⟩, .int .i64 2]) (by simp [results, Tryz.results7, go_sem]) rfl ⟨rfl, HB1.out⟩
set_option maxRecDepth 100000 in
set_option maxHeartbeats 1600000 in
theorem gtext_ok (n d : Int) (w : World) (h : FOk (n, d)) (hI : ItoaOk w) : Calls Tryz.prog 7 #[.agg #[.int .i64 n, .int .i64 d]] w (RetV (.tuple #[.string ⟨(textM n d).toArray⟩, .int .i64 0]) w) := by
  obtain ⟨hn, hd⟩ := i64_lowf h
  have cv := fun W => valid_one hn hd true (decide_eq_true h) W
  have ci1 : ∀ W (_ : Below w.heap.size w W), Calls Tryz.prog 17 #[.int .i64 n] W (RetW (.string ⟨(itoa n).toArray⟩) W) := fun W hb => hI W hb n hn
  have ci2 : ∀ W (_ : Below w.heap.size w W), Calls Tryz.prog 17 #[.int .i64 d] W (RetW (.string ⟨(itoa d).toArray⟩) W) := fun W hb => hI W hb d hd
  have l1 := itoa_len hn
  have l2 := itoa_len hd
  simp only at l1 l2
  clear hn hd h hI
  obtain ⟨W3, hW3⟩ : ∃ W3, W3 = w.alloc (.cells #[.int .i64 n, .int .i64 d] 23) := ⟨_, rfl⟩
  have hB : Below w.heap.size w W3 := by rw [hW3]; exact (Below.refl _ _).alloc (Nat.le_refl _) _
  have HBW := Lib.hid hB
  have HF := Lib.hid (show Two W3 w.heap.size (.int .i64 n) (.int .i64 d) 23 by rw [hW3]; exact Two.newAt _ _ _ _ _ rfl)
  clear hB
  go_enter Tryz.func7, Tryz.ntmps7
  go_upto_region 1 with fail
  rw [← hW3]
  clear hW3
  have k0 := HF.out.cell0
  have k1 := HF.out.cell1
  have cc := cv W3
  go_wp2_with fail
  refine cc.mono ?_
  rintro e V1 ⟨v1, rfl, rfl, hn1⟩
  have HB1 := Lib.hid (HBW.out.trans (hn1.mono HBW.out.size))
  have HF1 := Lib.hid (HF.out.below hn1 HF.out.lt)
  clear cc hn1 k0 k1 HF HBW cv
  by_cases h1 : d = 1
  · subst h1
    have k0 := HF1.out.cell0
    have k1 := HF1.out.cell1
    have cc := ci1 V1 HB1.out
    go_wp2_with fail
    refine cc.mono ?_
    rintro e V2 ⟨v2, rfl, rfl, hn2⟩
    have HB2 := Lib.hid (HB1.out.trans (hn2.mono HB1.out.size))
    clear cc ci1 ci2
    go_wp2
    exact bodyPost_ret (v := .tuple #[.string ⟨(itoa n).toArray⟩, .int .i64 0]) (by simp [results, Tryz.results7, go_sem]) rfl ⟨by unfold textM; rw [if_pos rfl, List.append_nil], HB2.out⟩
  · have k0 := HF1.out.cell0
    have k1 := HF1.out.cell1
    go_upto_region 5 with fail
    clear k0 k1
    have z1 : ¬ 9223372036854775807 < (itoa n).length + 1 := by omega
    have z2 : ¬ 9223372036854775807 < (itoa n).length + 1 + (itoa d).length := by omega
    obtain ⟨p, hp⟩ : ∃ p, p = itoa n := ⟨_, rfl⟩
    obtain ⟨q, hq⟩ : ∃ q, q = itoa d := ⟨_, rfl⟩
    rw [← hp] at ci1 z1 z2
    rw [← hq] at ci2 z2
    have HPQ := Lib.hid (And.intro hp hq)
    clear hp hq l1 l2
    refine Lex.wp_region_lex (fun w' => Two w' w.heap.size (.int .i64 n) (.int .i64 d) 23) (fun _ => true)
      [(0, true), (1, true), (4, true), (5, true), (2, false), (3, true), (6, false), (7, false), (8, false), (9, false)]
      (by kernel_rfl) (by kernel_rfl) (by kernel_rfl) (by kernel_rfl) HF1.out ?_
    have hb10 : Below V1.heap.size V1 V1.drew := ⟨rfl, rfl, rfl, Nat.le_refl _, fun _ _ => rfl⟩
    have hw10 : Below w.heap.size w V1.drew := ⟨HB1.out.os, HB1.out.tape, HB1.out.output, HB1.out.size, HB1.out.block⟩
    generalize hV0 : V1.drew = V10 at *
    clear hV0
    iterate 4 (refine Lex.lex_take (v := ?_) rfl rfl (by rfl) (fun _ hS => ?_) ?_; rotate_left 1; (focus (have g0_0 := hS.cell0; have g0_1 := hS.cell1; clear hS; go_simp; with_reducible rfl)); simp only [List.setIfInBounds_toArray, List.set_cons_zero, List.set_cons_succ])
    refine Lex.lex_do rfl ?_
    have cc := ci1 V10 hw10
    go_wp2_with fail
    refine cc.mono ?_
    rintro e V11 ⟨v11, rfl, hm11, hn11⟩
    have hb11 := hb10.trans (hn11.mono hb10.size)
    have hw11 := hw10.trans (hn11.mono hw10.size)
    subst hm11
    clear cc hb10 hw10 hn11
    go_wp2_with fail
    refine Lex.lexQ_normal (fun _ => (HF1.out.below hb11 HF1.out.lt)) ?_
    refine Lex.lex_take (v := ?_) rfl rfl (by rfl) (fun _ hS => ?_) ?_; rotate_left 1; (focus (have g0_0 := hS.cell0; have g0_1 := hS.cell1; clear hS; go_simp; with_reducible rfl)); simp only [List.setIfInBounds_toArray, List.set_cons_zero, List.set_cons_succ]
    refine Lex.lex_do rfl ?_
    have cc := ci2 V11 hw11
    go_wp2_with fail
    refine cc.mono ?_
    rintro e V12 ⟨v12, rfl, hm12, hn12⟩
    have hb12 := hb11.trans (hn12.mono hb11.size)
    have hw12 := hw11.trans (hn12.mono hw11.size)
    subst hm12
    clear cc hb11 hw11 hn12
    go_wp2_with fail
    refine Lex.lexQ_normal (fun _ => (HF1.out.below hb12 HF1.out.lt)) ?_
    refine Lex.lex_do rfl ?_
    go_wp2_with fail
    refine Lex.lexQ_normal (fun _ => (HF1.out.below hb12 HF1.out.lt)) ?_
    refine Lex.lex_do rfl ?_
    go_wp2_with fail
    refine Lex.lexQ_normal (fun _ => (HF1.out.below hb12 HF1.out.lt)) ?_
    refine Lex.lex_do rfl ?_
    go_wp2_with fail
    refine Lex.lexQ_normal (fun _ => (HF1.out.below hb12 HF1.out.lt)) ?_
    refine Lex.lex_nil ?_
    have HE := Lib.hid hw12
    clear hb12 hw12
    go_wp2
    refine bodyPost_ret (v := .tuple #[.string ⟨(p ++ 47 :: q).toArray⟩, .int .i64 0]) ?_ rfl ⟨?_, HE.out⟩
    · have e1 : (⟨(p ++ 47 :: q).toArray⟩ : ByteArray) = ⟨p.toArray⟩ ++ ⟨[47].toArray⟩ ++ ⟨q.toArray⟩ := by rw [ByteArray.mk_append_mk, ByteArray.mk_append_mk]; simp
      rw [e1]
      simp [results, Tryz.results7, go_sem]
    · unfold textM
      rw [if_neg h1, ← HPQ.out.1, ← HPQ.out.2]
set_option maxRecDepth 100000 in
set_option maxHeartbeats 1600000 in
theorem gfloor_bad (n d : Int) (w : World) (hn : I64 n) (hd : I64 d) (h : ¬ FOk (n, d)) : Calls Tryz.prog 6 #[.agg #[.int .i64 n, .int .i64 d]] w (RetV (.tuple #[.int .i64 0, .int .i64 2]) w) := by
  have cv := fun W => valid_one hn hd false (decide_eq_false h) W
  clear hn hd h
  obtain ⟨W3, hW3⟩ : ∃ W3, W3 = w.alloc (.cells #[.int .i64 n, .int .i64 d] 23) := ⟨_, rfl⟩
  have hB : Below w.heap.size w W3 := by rw [hW3]; exact (Below.refl _ _).alloc (Nat.le_refl _) _
  have HBW := Lib.hid hB
  have HF := Lib.hid (show Two W3 w.heap.size (.int .i64 n) (.int .i64 d) 23 by rw [hW3]; exact Two.newAt _ _ _ _ _ rfl)
  clear hB
  go_enter Tryz.func6, Tryz.ntmps6
  go_upto_region 1 with fail
  rw [← hW3]
  clear hW3
  have k0 := HF.out.cell0
  have k1 := HF.out.cell1
  have cc := cv W3
  go_wp2_with fail
  refine cc.mono ?_
  rintro e V1 ⟨v1, rfl, rfl, hn1⟩
  have HB1 := Lib.hid (HBW.out.trans (hn1.mono HBW.out.size))
  have HF1 := Lib.hid (HF.out.below hn1 HF.out.lt)
  clear cc hn1 k0 k1 HF HBW cv
  go_wp2
  exact bodyPost_ret (v := .tuple #[.int .i64 0, .int .i64 2]) (by simp [results, Tryz.results6, go_sem]) rfl ⟨rfl, HB1.out⟩
set_option maxRecDepth 100000 in
set_option maxHeartbeats 1600000 in
theorem gfloor_ok (n d z : Int) (w : World) (h : FOk (n, d)) (hz : n / d = z) : Calls Tryz.prog 6 #[.agg #[.int .i64 n, .int .i64 d]] w (RetV (.tuple #[.int .i64 z, .int .i64 0]) w) := by
  obtain ⟨hn, hd⟩ := i64_lowf h
  have cv := fun W => valid_one hn hd true (decide_eq_true h) W
  have cf : ∀ W (_ : Below w.heap.size w W), Calls Tryz.prog 16 #[.agg #[.int .i64 n, .int .i64 d]] W (RetW (.int .i64 z) W) := fun W _ => by
    subst hz
    exact (floor_any n d W hn ⟨h.1, hd.2⟩).mono fun e w' h => RetW.of h
  clear hn hd h hz
  obtain ⟨W3, hW3⟩ : ∃ W3, W3 = w.alloc (.cells #[.int .i64 n, .int .i64 d] 23) := ⟨_, rfl⟩
  have hB : Below w.heap.size w W3 := by rw [hW3]; exact (Below.refl _ _).alloc (Nat.le_refl _) _
  have HBW := Lib.hid hB
  have HF := Lib.hid (show Two W3 w.heap.size (.int .i64 n) (.int .i64 d) 23 by rw [hW3]; exact Two.newAt _ _ _ _ _ rfl)
  clear hB
  go_enter Tryz.func6, Tryz.ntmps6
  go_upto_region 1 with fail
  rw [← hW3]
  clear hW3
  have k0 := HF.out.cell0
  have k1 := HF.out.cell1
  have cc := cv W3
  go_wp2_with fail
  refine cc.mono ?_
  rintro e V1 ⟨v1, rfl, rfl, hn1⟩
  have HB1 := Lib.hid (HBW.out.trans (hn1.mono HBW.out.size))
  have HF1 := Lib.hid (HF.out.below hn1 HF.out.lt)
  clear cc hn1 k0 k1 HF HBW cv
  have k0 := HF1.out.cell0
  have k1 := HF1.out.cell1
  have cc := cf V1 HB1.out
  go_wp2_with fail
  refine cc.mono ?_
  rintro e V2 ⟨v2, rfl, rfl, hn2⟩
  have HB2 := Lib.hid (HB1.out.trans (hn2.mono HB1.out.size))
  clear cc cf
  go_wp2
  exact bodyPost_ret (v := .tuple #[.int .i64 z, .int .i64 0]) (by simp [results, Tryz.results6, go_sem]) rfl ⟨rfl, HB2.out⟩
set_option maxRecDepth 100000 in
set_option maxHeartbeats 1600000 in
theorem rtext_any (n d : Int) (w : World) (h : FOk (n, d)) : Calls Tryz.prog 11 #[.agg #[.int .i64 n, .int .i64 d]] w (RetV (.string ⟨(textM n d).toArray⟩) w) := by
  have hb := h
  unfold FOk at hb
  simp only at hb
  obtain ⟨u, hu⟩ : ∃ u, n.natAbs = u := ⟨_, rfl⟩
  obtain ⟨v, rfl⟩ : ∃ v : Nat, d = (v : Int) := ⟨d.toNat, by omega⟩
  have c1 : ∀ W (_ : Below w.heap.size w W), Calls Tryz.prog 26 #[.int .i64 (u : Int)] W (RetW (.string ⟨(decDigits u).toArray⟩) W) := fun W _ => (rdigits_any u W (by omega)).mono fun e w' h => RetW.of h
  have c2 : ∀ W (_ : Below w.heap.size w W), Calls Tryz.prog 26 #[.int .i64 (v : Int)] W (RetW (.string ⟨(decDigits v).toArray⟩) W) := fun W _ => (rdigits_any v W (by omega)).mono fun e w' h => RetW.of h
  have l1 := dec_len19 (u := u) (by omega)
  have l2 := dec_len19 (u := v) (by omega)
  have hi : itoa n = (if n < 0 then [45] else []) ++ decDigits u := by
    unfold itoa
    by_cases hn : n < 0
    · rw [if_pos hn, if_pos hn, hu]; rfl
    · rw [if_neg hn, if_neg hn, show n.toNat = u by omega]; rfl
  have hj : itoa (v : Int) = decDigits v := by
    unfold itoa
    rw [if_neg (by omega)]
    rfl
  have ht : textM n (v : Int) = (if n < 0 then [45] else []) ++ decDigits u ++ (if v = 1 then [] else 47 :: decDigits v) := by
    unfold textM
    rw [hi, hj]
    congr 1
    by_cases hv : v = 1
    · rw [if_pos hv, if_pos (by omega)]
    · rw [if_neg hv, if_neg (by omega)]
  rw [ht]
  obtain ⟨p, hp⟩ : ∃ p, p = decDigits u := ⟨_, rfl⟩
  obtain ⟨q, hq⟩ : ∃ q, q = decDigits v := ⟨_, rfl⟩
  rw [← hp] at c1 l1 ⊢
  rw [← hq] at c2 l2 ⊢
  have hI : I64 n := by unfold I64; omega
  unfold I64 at hI
  obtain ⟨R, hR⟩ : ∃ R, R = (if n < 0 then [45] else []) ++ p ++ (if v = 1 then [] else 47 :: q) := ⟨_, rfl⟩
  rw [← hR]
  have HRR := Lib.hid hR
  clear hp hq ht hi hj h hR
  obtain ⟨W3, hW3⟩ : ∃ W3, W3 = w.alloc (.cells #[.int .i64 n, .int .i64 (v : Int)] 23) := ⟨_, rfl⟩
  have hB : Below w.heap.size w W3 := by rw [hW3]; exact (Below.refl _ _).alloc (Nat.le_refl _) _
  have HBW := Lib.hid hB
  have HF := Lib.hid (show Two W3 w.heap.size (.int .i64 n) (.int .i64 (v : Int)) 23 by rw [hW3]; exact Two.newAt _ _ _ _ _ rfl)
  clear hB
  have z0 : ¬ 9223372036854775807 < 1 + p.length := by omega
  have z1 : ¬ 9223372036854775807 < p.length := by omega
  have z2 : ¬ 9223372036854775807 < 1 + q.length := by omega
  have z3 : ¬ 9223372036854775807 < 1 + p.length + (1 + q.length) := by omega
  have z4 : ¬ 9223372036854775807 < p.length + (1 + q.length) := by omega
  have HU := Lib.hid hu
  have HN := Lib.hid hb
  clear hu hb l1 l2
  have i1 : (u : Int) ≤ 4611686018427387904 := by have := HN.out; have := HU.out; omega
  have i2 : (v : Int) ≤ 4611686018427387904 := by have := HN.out; omega
  by_cases hneg : n < 0
  · have hm : -n = (u : Int) := by have := HU.out; omega
    have hR := HRR.out
    rw [if_pos hneg] at hR
    replace HRR := Lib.hid hR
    clear hR
    go_enter Tryz.func11, Tryz.ntmps11
    go_upto_region 1 with fail
    rw [← hW3]
    clear hW3
    have k0 := HF.out.cell0
    have k1 := HF.out.cell1
    have cc := c1 W3 HBW.out
    go_wp2_with fail
    refine cc.mono ?_
    rintro e V1 ⟨v1, rfl, rfl, hn1⟩
    have HB1 := Lib.hid (HBW.out.trans (hn1.mono HBW.out.size))
    have HF1 := Lib.hid (HF.out.below hn1 HF.out.lt)
    clear cc hn1 k0 k1 c1
    have k0 := HF1.out.cell0
    have k1 := HF1.out.cell1
    by_cases hv : v = 1
    · subst hv
      have hR := HRR.out
      rw [if_pos rfl] at hR
      have HR2 := Lib.hid hR
      clear hR
      go_wp2
      go_ret
      refine ⟨?_, HB1.out⟩
      rw [HR2.out]
      exact congrArg (fun x => Ending.returned (.string x)) ((ByteArray.mk_append_mk [45] p).trans (by simp))
    · have hR := HRR.out
      rw [if_neg hv] at hR
      have HR2 := Lib.hid hR
      clear hR
      have hv' : ¬ (v : Int) = 1 := by omega
      have cc := c2 V1 HB1.out
      go_wp2_with fail
      refine cc.mono ?_
      rintro e V2 ⟨v2, rfl, rfl, hn2⟩
      have HB2 := Lib.hid (HB1.out.trans (hn2.mono HB1.out.size))
      clear cc hn2 k0 k1 c2
      go_wp2
      go_ret
      refine ⟨?_, HB2.out⟩
      rw [HR2.out]
      exact congrArg (fun x => Ending.returned (.string x)) (show (⟨[45].toArray⟩ : ByteArray) ++ ⟨p.toArray⟩ ++ (⟨[47].toArray⟩ ++ ⟨q.toArray⟩) = _ by rw [ByteArray.mk_append_mk, ByteArray.mk_append_mk, ByteArray.mk_append_mk]; simp)
  · have hm : n = (u : Int) := by have := HU.out; omega
    have hR := HRR.out
    rw [if_neg hneg] at hR
    replace HRR := Lib.hid hR
    clear hR
    subst hm
    go_enter Tryz.func11, Tryz.ntmps11
    go_upto_region 1 with fail
    rw [← hW3]
    clear hW3
    have k0 := HF.out.cell0
    have k1 := HF.out.cell1
    have cc := c1 W3 HBW.out
    go_wp2_with fail
    refine cc.mono ?_
    rintro e V1 ⟨v1, rfl, rfl, hn1⟩
    have HB1 := Lib.hid (HBW.out.trans (hn1.mono HBW.out.size))
    have HF1 := Lib.hid (HF.out.below hn1 HF.out.lt)
    clear cc hn1 k0 k1 c1
    have k0 := HF1.out.cell0
    have k1 := HF1.out.cell1
    by_cases hv : v = 1
    · subst hv
      have hR := HRR.out
      rw [if_pos rfl] at hR
      have HR2 := Lib.hid hR
      clear hR
      go_wp2
      go_ret
      refine ⟨?_, HB1.out⟩
      rw [HR2.out]
      exact congrArg (fun x => Ending.returned (.string x)) (show _ = _ by first | (simp; done) | (rw [ByteArray.mk_append_mk [] p]; simp))
    · have hR := HRR.out
      rw [if_neg hv] at hR
      have HR2 := Lib.hid hR
      clear hR
      have hv' : ¬ (v : Int) = 1 := by omega
      have cc := c2 V1 HB1.out
      go_wp2_with fail
      refine cc.mono ?_
      rintro e V2 ⟨v2, rfl, rfl, hn2⟩
      have HB2 := Lib.hid (HB1.out.trans (hn2.mono HB1.out.size))
      clear cc hn2 k0 k1 c2
      go_wp2
      go_ret
      refine ⟨?_, HB2.out⟩
      rw [HR2.out]
      first | exact congrArg (fun x => Ending.returned (.string x)) (show (⟨[].toArray⟩ : ByteArray) ++ ⟨p.toArray⟩ ++ (⟨[47].toArray⟩ ++ ⟨q.toArray⟩) = _ by rw [ByteArray.mk_append_mk, ByteArray.mk_append_mk, ByteArray.mk_append_mk]; simp) | exact congrArg (fun x => Ending.returned (.string x)) (show (⟨p.toArray⟩ : ByteArray) ++ (⟨[47].toArray⟩ ++ ⟨q.toArray⟩) = _ by rw [ByteArray.mk_append_mk, ByteArray.mk_append_mk]; simp)
end Go.Proofs.YtklngjjokbhfpaaGreatDoor
