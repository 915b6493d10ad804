/- The program's reader: term at a bracket, the second term is not read (printed by expand.py). -/
import Derived.Test.YtobpacebpiabcaaGreatDoorCb
namespace Go.Proofs.YtobpacebpiabcaaGreatDoor
open Go.RowKit Go.Lib
theorem blk_other4 {W : World} {B B' : Nat} {cs : Array Value} {t : TypeId} (h : Blk W B cs t) (hne : B ≠ B') (a b c d : Value) : Blk (set4 W B' a b c d) B cs t := (((h.setOther ⟨B', 0, none⟩ a hne).setOther ⟨B', 1, none⟩ b hne).setOther ⟨B', 2, none⟩ c hne).setOther ⟨B', 3, none⟩ d hne
set_option maxRecDepth 100000 in
set_option maxHeartbeats 12800000 in
theorem term_br2 (m R N B0 : Nat) (IH : TermOk (m + 1)) (ws : List (List UInt8)) (w : World) (h : RdAt N w R ws ((m + 1 : Nat) : Int)) (hN : N ≤ w.heap.size) (hm1 : m ≤ 1000) (hL : LibOk B0 w) (hB0 : B0 ≤ R) (hle : Lean9 ws) (hx4 : hd ws = [40]) (y : Tm × List (List UInt8) × Nat) (hrd : rdv m ws.tail = some y) (h2 : two1 (hd y.2.1) ≠ 0) (hrd2 : rdv y.2.2 y.2.1.tail = none) :
    Calls Tryz.prog 48 #[.pointer (some ⟨R, 0, none⟩)] w (RetNone N R w) := by
  obtain ⟨q, hq⟩ : ∃ q, two1 (hd y.2.1) = q := ⟨_, rfl⟩
  rw [hq] at h2
  have dq : (q == 0) = false := by rw [beq_eq_false_iff_ne]; exact h2
  have HQ := Lib.hid hq
  have HPL := Lib.hid (rdv_plain _ m ws.tail y (Nat.lt_succ_self _) hle.tail hrd)
  have HRD2 := Lib.hid hrd2
  clear hq h2 hrd2
  obtain ⟨x, hx'⟩ : ∃ x : List UInt8, [40] = x := ⟨_, rfl⟩
  rw [hx'] at hx4
  have HX := Lib.hid hx4
  have HX' := Lib.hid hx'
  have HX1 := Lib.hid (show x ≠ wTrue by rw [← hx']; decide)
  have HRD := Lib.hid hrd
  have HL := Lib.hid hL
  have HLE := Lib.hid hle
  clear hx' hx4 hrd hL hle
  obtain ⟨hRN, v, hB, hs⟩ := h
  obtain ⟨W1, hW1⟩ : ∃ W1, W1 = w.alloc (.cells #[.int .i64 0, .string ⟨#[]⟩, .int .i64 0, .slice none 0 0] 26) := ⟨_, rfl⟩
  have hb1 : Below w.heap.size w W1 := by rw [hW1]; exact (Below.refl _ _).alloc (Nat.le_refl _) _
  have HB1 := Lib.hid (hB.below hb1)
  have HS1 := Lib.hid (hs.above (hb1.mono hN))
  have HZ1 := Lib.hid (show Blk W1 w.heap.size #[.int .i64 0, .string ⟨#[]⟩, .int .i64 0, .slice none 0 0] 26 by rw [hW1]; exact Blk.new _ _ _)
  have HF1 := Lib.hid (fr_of_below hb1 [R])
  have hRw : R < w.heap.size := by omega
  have HRW := Lib.hid (show ∀ b, w.heap.size ≤ b → b ∉ [R] from fun b hb hm => by have := List.mem_singleton.1 hm; omega)
  have c1 : W1.cell? ⟨R, 1, none⟩ = some (.int .i64 ((m : Int) + 1)) := by rw [HB1.out.cell 1]; simp
  have f1 := HB1.out.free 1
  clear hb1 hB hs
  obtain ⟨W2, hW2⟩ : ∃ W2, W2 = W1.setCell ⟨R, 1, none⟩ (.int .i64 (m : Int)) := ⟨_, rfl⟩
  have HR2 := Lib.hid (show RdAt N W2 R ws (m : Int) by rw [hW2]; exact ⟨hRN, _, HB1.out.set 1 _, HS1.out.set 1 _⟩)
  have HZ2 := Lib.hid (show Blk W2 w.heap.size #[.int .i64 0, .string ⟨#[]⟩, .int .i64 0, .slice none 0 0] 26 by rw [hW2]; exact HZ1.out.setOther _ _ (by show w.heap.size ≠ R; omega))
  have HF2 := Lib.hid (show Fr [R] w W2 by rw [hW2]; exact HF1.out.set _ (.inl (List.mem_singleton.2 rfl)) _)
  have hmm := @run_makeMap Tryz.prog
  have i1 := fun w0 : World => ins_map w0 #[] 0 ⟨#[110, 111, 116]⟩ (.int .i64 3) rfl
  have i2 := fun w0 : World => ins_map w0 #[⟨.string ⟨#[110, 111, 116]⟩, .int .i64 3, 0⟩] 1 ⟨#[112, 114, 101, 118]⟩ (.int .i64 6) rfl
  have i3 := fun w0 : World => ins_map w0 #[⟨.string ⟨#[110, 111, 116]⟩, .int .i64 3, 0⟩, ⟨.string ⟨#[112, 114, 101, 118]⟩, .int .i64 6, 1⟩] 2 ⟨#[111, 110, 99, 101]⟩ (.int .i64 7) rfl
  have i4 := fun w0 : World => ins_map w0 #[⟨.string ⟨#[110, 111, 116]⟩, .int .i64 3, 0⟩, ⟨.string ⟨#[112, 114, 101, 118]⟩, .int .i64 6, 1⟩, ⟨.string ⟨#[111, 110, 99, 101]⟩, .int .i64 7, 2⟩] 3 ⟨#[97, 108, 119, 97, 121, 115]⟩ (.int .i64 8) rfl
  have i5 := fun w0 : World => ins_map w0 #[⟨.string ⟨#[110, 111, 116]⟩, .int .i64 3, 0⟩, ⟨.string ⟨#[112, 114, 101, 118]⟩, .int .i64 6, 1⟩, ⟨.string ⟨#[111, 110, 99, 101]⟩, .int .i64 7, 2⟩, ⟨.string ⟨#[97, 108, 119, 97, 121, 115]⟩, .int .i64 8, 3⟩] 4 ⟨#[119, 105, 116, 104, 105, 110]⟩ (.int .i64 10) rfl
  have j1 := fun w0 : World => ins_map w0 #[] 0 ⟨#[97, 110, 100]⟩ (.int .i64 4) rfl
  have j2 := fun w0 : World => ins_map w0 #[⟨.string ⟨#[97, 110, 100]⟩, .int .i64 4, 0⟩] 1 ⟨#[111, 114]⟩ (.int .i64 5) rfl
  have j3 := fun w0 : World => ins_map w0 #[⟨.string ⟨#[97, 110, 100]⟩, .int .i64 4, 0⟩, ⟨.string ⟨#[111, 114]⟩, .int .i64 5, 1⟩] 2 ⟨#[115, 105, 110, 99, 101]⟩ (.int .i64 9) rfl
  simp only [List.push_toArray, List.cons_append, List.nil_append] at i1 i2 i3 i4 i5 j1 j2 j3
  obtain ⟨W3, hW3⟩ : ∃ W3, W3 = W2.alloc (.map es1 5) := ⟨_, rfl⟩
  obtain ⟨W4, hW4⟩ : ∃ W4, W4 = W3.alloc (.map es2 3) := ⟨_, rfl⟩
  have hb3 : Below W2.heap.size W2 W3 := by rw [hW3]; exact (Below.refl _ _).alloc (Nat.le_refl _) _
  have hb4 : Below W3.heap.size W3 W4 := by rw [hW4]; exact (Below.refl _ _).alloc (Nat.le_refl _) _
  have hN2 : N ≤ W2.heap.size := by have := HF2.out.size; omega
  have hN3 : N ≤ W3.heap.size := by have := hb3.size; omega
  have HM1 := Lib.hid (show MapB W4 W2.heap.size es1 5 from MapB.below (w := W3) (by rw [hW3]; exact heap_alloc_new W2 _) hb4)
  have HM2 := Lib.hid (show MapB W4 W3.heap.size es2 3 by rw [hW4]; exact heap_alloc_new W3 _)
  have HZ4 := Lib.hid ((HZ2.out.below hb3).below hb4)
  have HR4 := Lib.hid ((HR2.out.above (hb3.mono hN2)).above (hb4.mono hN3))
  have HF4 := Lib.hid ((HF2.out.trans (fr_of_below hb3 _)).trans (fr_of_below hb4 _))
  have HSZ := Lib.hid (show w.heap.size < W2.heap.size ∧ W2.heap.size < W3.heap.size from ⟨by have := HZ2.out.lt; omega, by rw [hW3]; simp⟩)
  have hm0 : ¬ ((m : Int) < 0) := by omega
  have hm2 : (m : Int) ≤ 1000 := by omega
  clear hb3 hb4 HS1 HZ1 HF1 HZ2 HF2 hN2 hN3
  go_enter Tryz.func48, Tryz.ntmps48
  go_upto_region 1 with fail
  rw [← hW1]
  clear hW1
  go_upto_region 2 with fail
  rw [← hW2]
  clear hW2 c1 f1 HB1
  have d1 : W2.cell? ⟨R, 1, none⟩ = some (.int .i64 (m : Int)) := by obtain ⟨_, v, h, _⟩ := HR2.out; exact h.cell 1
  unfold es1 at hW3
  unfold es2 at hW4
  go_upto_region 5 with fail
  rw [← hW3]
  clear hW3 i1 i2 i3 i4 i5 d1 hm0
  go_upto_region 6 with fail
  rw [← hW4]
  clear hW4 j1 j2 j3 hmm HR2
  have cx := next_any N ws (m : Int) R W4 HR4.out
  go_wp2_with fail
  refine cx.mono ?_
  rintro e W5 ⟨rfl, hr5, hf5⟩
  have HR5 := Lib.hid hr5
  have HF5 := Lib.hid (HF4.out.trans hf5)
  have HZ5 := Lib.hid (HZ4.out.fr hf5 (HRW.out _ (Nat.le_refl _)))
  have HM1' := Lib.hid (HM1.out.fr hf5 (HRW.out _ (by have := HSZ.out; omega)))
  have HM2' := Lib.hid (HM2.out.fr hf5 (HRW.out _ (by have := HSZ.out; omega)))
  clear hr5 hf5 HR4 HF4 HZ4 HM1 HM2 cx
  rw [HX.out]
  have t1 : (x == [116, 114, 117, 101]) = false := by rw [beq_eq_false_iff_ne]; exact HX1.out
  have t2 : (x == [40]) = true := by rw [beq_iff_eq]; exact HX'.out.symm
  have ct := (IH m R N B0 ws.tail W5 (by omega) hm1 HR5.out (by have := HF5.out.size; omega) (HL.out.fr HF5.out hB0) hB0 HLE.out.tail).1 y HRD.out
  go_wp2_with fail
  refine ct.mono ?_
  rintro e W6 ⟨v6, rfl, ⟨u6, rfl, hu6⟩, hr6, hf6⟩
  obtain ⟨A7, n7, c7, rfl, -⟩ := hu6.open'
  generalize hk' : y.1.1 = k' at *
  generalize hnm' : y.1.2.1 = nm' at *
  generalize hn' : y.1.2.2.1 = n' at *
  have HT := Lib.hid (And.intro hk' (And.intro hnm' hn'))
  have HK6 := Lib.hid (hu6.mono (T := fun b => w.heap.size + 1 ≤ b) (fun b hb _ => by have := HZ5.out.lt; omega))
  clear hk' hnm' hn' hu6
  have HR6 := Lib.hid hr6
  have HF6 := Lib.hid (HF5.out.trans hf6)
  have HZ6 := Lib.hid (HZ5.out.fr hf6 (HRW.out _ (Nat.le_refl _)))
  have HM6 := Lib.hid (HM2'.out.fr hf6 (HRW.out _ (by have := HSZ.out; omega)))
  clear hr6 hf6 ct
  go_upto_region 11 with fail
  obtain ⟨W7, hW7⟩ : ∃ W7, W7 = W6.alloc (.cells #[.int .i64 k', .string ⟨nm'.toArray⟩, .int .i64 n', .slice A7 n7 c7] 26) := ⟨_, rfl⟩
  have hb7 : Below W6.heap.size W6 W7 := by rw [hW7]; exact (Below.refl _ _).alloc (Nat.le_refl _) _
  have HX7 := Lib.hid (show Blk W7 W6.heap.size #[.int .i64 k', .string ⟨nm'.toArray⟩, .int .i64 n', .slice A7 n7 c7] 26 by rw [hW7]; exact Blk.new _ _ _)
  rw [← hW7]
  clear hW7
  have HR7 := Lib.hid (HR6.out.above (hb7.mono (by have := HF6.out.size; omega)))
  have HF7 := Lib.hid (HF6.out.trans (fr_of_below hb7 _))
  have HZ7 := Lib.hid (HZ6.out.below hb7)
  have HM7 := Lib.hid (HM6.out.below hb7)
  have HS6 := Lib.hid HF6.out.size
  have HK7 := Lib.hid (HK6.out.below hb7)
  have cx := next_any N y.2.1 (y.2.2 : Int) R W7 HR7.out
  go_wp2_with fail
  refine cx.mono ?_
  rintro e W8 ⟨rfl, hr8, hf8⟩
  have HK8 := Lib.hid (HK7.out.fr hf8 (fun b hb => HRW.out b (by omega)))
  have HR8 := Lib.hid hr8
  have HF8 := Lib.hid (HF7.out.trans hf8)
  have HZ8 := Lib.hid (HZ7.out.fr hf8 (HRW.out _ (Nat.le_refl _)))
  have HM8 := Lib.hid (HM7.out.fr hf8 (HRW.out _ (by have := HSZ.out; omega)))
  have HX8 := Lib.hid (HX7.out.fr hf8 (HRW.out _ HS6.out))
  clear hr8 hf8 hb7
  have lk := look_two HM8.out (hd y.2.1)
  clear cx HK6 HK7
  rw [HQ.out] at lk
  have hy22 : y.2.2 ≤ m := by have := HPL.out.2.2; omega
  have HL1 := Lib.hid (show Lean9 y.2.1.tail from (show Lean9 y.2.1 from fun s hs => HLE.out.tail s (HPL.out.1 s hs)).tail)
  have ct := (IH y.2.2 R N B0 y.2.1.tail W8 (by omega) (by omega) HR8.out (by have := HF8.out.size; omega) (HL.out.fr HF8.out hB0) hB0 HL1.out)
  replace ct := ct.2 HRD2.out
  go_wp2_with fail
  refine ct.mono ?_
  rintro e W9 ⟨k2, nm2, n2, A9, n9, c9, ws9, m9, rfl, hr9, hf9⟩
  have HF9 := Lib.hid (HF8.out.trans hf9)
  have HZ9 := Lib.hid (HZ8.out.fr hf9 (HRW.out _ (Nat.le_refl _)))
  have HX9 := Lib.hid (HX8.out.fr hf9 (HRW.out _ HS6.out))
  have HK9 := Lib.hid (HK8.out.fr hf9 (fun b hb => HRW.out b (by omega)))
  have HR9 := Lib.hid hr9
  clear hr9 hf9 ct hy22
  go_upto_region 15 with fail
  obtain ⟨W10, hW10⟩ : ∃ W10, W10 = W9.alloc (.cells #[.int .i64 k2, .string ⟨nm2.toArray⟩, .int .i64 n2, .slice A9 n9 c9] 26) := ⟨_, rfl⟩
  have hb10 : Below W9.heap.size W9 W10 := by rw [hW10]; exact (Below.refl _ _).alloc (Nat.le_refl _) _
  have HV10 := Lib.hid (show Blk W10 W9.heap.size #[.int .i64 k2, .string ⟨nm2.toArray⟩, .int .i64 n2, .slice A9 n9 c9] 26 by rw [hW10]; exact Blk.new _ _ _)
  rw [← hW10]
  clear hW10
  have HX10 := Lib.hid (HX9.out.below hb10)
  have HF10 := Lib.hid (HF9.out.trans (fr_of_below hb10 _))
  have HZ10 := Lib.hid (HZ9.out.below hb10)
  have HK10 := Lib.hid (HK9.out.below hb10)
  have HR10 := Lib.hid (HR9.out.above (hb10.mono (by have := HF9.out.size; omega)))
  have HC0 := Lib.hid (And.intro (HX10.out.cell 0) HX10.out.lt)
  have HC1 := Lib.hid (And.intro (HX10.out.cell 1) HX10.out.lt)
  have HC2 := Lib.hid (And.intro (HX10.out.cell 2) HX10.out.lt)
  have HC3 := Lib.hid (And.intro (HX10.out.cell 3) HX10.out.lt)
  have HC4 := Lib.hid (And.intro (HV10.out.cell 0) HV10.out.lt)
  have HC5 := Lib.hid (And.intro (HV10.out.cell 1) HV10.out.lt)
  have HC6 := Lib.hid (And.intro (HV10.out.cell 2) HV10.out.lt)
  have HC7 := Lib.hid (And.intro (HV10.out.cell 3) HV10.out.lt)
  refine Lex.wp_region_lex (fun w' => Blk w' W6.heap.size #[.int .i64 k', .string ⟨nm'.toArray⟩, .int .i64 n', .slice A7 n7 c7] 26 ∧ Blk w' W9.heap.size #[.int .i64 k2, .string ⟨nm2.toArray⟩, .int .i64 n2, .slice A9 n9 c9] 26) (fun _ => true)
    [(0, true), (1, true), (2, true), (5, true), (6, true), (7, true), (8, true), (9, true), (10, true), (3, false), (4, true), (11, false), (12, false)]
    (by kernel_rfl) (by kernel_rfl) (by kernel_rfl) (by kernel_rfl) ⟨HX10.out, HV10.out⟩ ?_
  have hb0 : Below W10.heap.size W10 W10.drew := ⟨rfl, rfl, rfl, Nat.le_refl _, fun _ _ => rfl⟩
  generalize hV0 : W10.drew = V0 at *
  clear hV0
  iterate 5 (refine Lex.lex_take (v := ?_) rfl rfl (by rfl) (fun _ hS => ?_) ?_; rotate_left 1; (focus (have q0 := hS.1.cell 0; have q1 := hS.1.cell 1; have q2 := hS.1.cell 2; have q3 := hS.1.cell 3; have q4 := hS.2.cell 0; have q5 := hS.2.cell 1; have q6 := hS.2.cell 2; have q7 := hS.2.cell 3; clear hS; go_simp; with_reducible rfl)); simp only [List.setIfInBounds_toArray, List.set_cons_zero, List.set_cons_succ])
  iterate 3 (refine Lex.lex_skip rfl rfl (by rfl) ?_; simp only [List.setIfInBounds_toArray, List.set_cons_zero, List.set_cons_succ])
  refine Lex.lex_take (v := ?_) rfl rfl (by rfl) (fun _ hS => ?_) ?_; rotate_left 1; (focus (have q0 := hS.1.cell 0; have q1 := hS.1.cell 1; have q2 := hS.1.cell 2; have q3 := hS.1.cell 3; have q4 := hS.2.cell 0; have q5 := hS.2.cell 1; have q6 := hS.2.cell 2; have q7 := hS.2.cell 3; clear hS; go_simp; with_reducible rfl)); simp only [List.setIfInBounds_toArray, List.set_cons_zero, List.set_cons_succ]
  refine Lex.lex_do rfl ?_
  go_wp2_with fail
  refine Lex.lexQ_normal (fun _ => ⟨HX10.out.below (hb0.alloc hb0.size _), HV10.out.below (hb0.alloc hb0.size _)⟩) ?_
  refine Lex.lex_take (v := ?_) rfl rfl (by rfl) (fun _ hS => ?_) ?_; rotate_left 1; (focus (have q0 := hS.1.cell 0; have q1 := hS.1.cell 1; have q2 := hS.1.cell 2; have q3 := hS.1.cell 3; have q4 := hS.2.cell 0; have q5 := hS.2.cell 1; have q6 := hS.2.cell 2; have q7 := hS.2.cell 3; clear hS; go_simp; with_reducible rfl)); simp only [List.setIfInBounds_toArray, List.set_cons_zero, List.set_cons_succ]
  refine Lex.lex_do rfl ?_
  obtain ⟨W11, hW11⟩ : ∃ W11, W11 = V0.alloc (.cells #[.int .i64 k', .string ⟨nm'.toArray⟩, .int .i64 n', .slice A7 n7 c7, .int .i64 k2, .string ⟨nm2.toArray⟩, .int .i64 n2, .slice A9 n9 c9] 26) := ⟨_, rfl⟩
  have hb11 : Below W10.heap.size W10 W11 := by rw [hW11]; exact hb0.alloc hb0.size _
  rw [← hW11]
  have HZ11 := Lib.hid (HZ10.out.below hb11)
  have HR11 := Lib.hid (HR10.out.above (hb11.mono (by have := HF10.out.size; omega)))
  have HF11 := Lib.hid (HF10.out.trans (fr_of_below hb11 _))
  have hne : W6.heap.size ≠ w.heap.size ∧ W9.heap.size ≠ w.heap.size := ⟨by have h1 := HZ5.out.lt; have h2 := HS6.out; have h3 := HZ6.out.lt; omega, by have h1 := HZ9.out.lt; omega⟩
  have HS11 := Lib.hid (And.intro (HX10.out.below hb11) (HV10.out.below hb11))
  have HSE := Lib.hid (show Blk (set4 W11 w.heap.size (.int .i64 q) (.string ⟨#[]⟩) (.int .i64 0) (.slice (some ⟨V0.heap.size, 0, none⟩) 2 2)) W6.heap.size #[.int .i64 k', .string ⟨nm'.toArray⟩, .int .i64 n', .slice A7 n7 c7] 26 ∧ Blk (set4 W11 w.heap.size (.int .i64 q) (.string ⟨#[]⟩) (.int .i64 0) (.slice (some ⟨V0.heap.size, 0, none⟩) 2 2)) W9.heap.size #[.int .i64 k2, .string ⟨nm2.toArray⟩, .int .i64 n2, .slice A9 n9 c9] 26 from ⟨blk_other4 HS11.out.1 hne.1 _ _ _ _, blk_other4 HS11.out.2 hne.2 _ _ _ _⟩)
  clear hne
  generalize V0.heap.size = BS at *
  clear hW11 hb11 hb0
  have z0 := HZ11.out.cell 0
  have z1 := HZ11.out.cell 1
  have z2 := HZ11.out.cell 2
  have z3 := HZ11.out.cell 3
  have g0 := HZ11.out.free 0
  have g1 := HZ11.out.free 1
  have g2 := HZ11.out.free 2
  have g3 := HZ11.out.free 3
  have HE := Lib.hid (HZ11.out.set4 (.int .i64 q) (.string ⟨#[]⟩) (.int .i64 0) (.slice (some ⟨BS, 0, none⟩) 2 2))
  have HRE := Lib.hid (HR11.out.above (below_set4 (B := w.heap.size) hN (.int .i64 q) (.string ⟨#[]⟩) (.int .i64 0) (.slice (some ⟨BS, 0, none⟩) 2 2)))
  have HFE := Lib.hid (fr_set4 HF11.out (Nat.le_refl _) (.int .i64 q) (.string ⟨#[]⟩) (.int .i64 0) (.slice (some ⟨BS, 0, none⟩) 2 2))
  go_wp2_with fail
  refine Lex.lexQ_normal (fun _ => HSE.out) ?_
  refine Lex.lex_do rfl ?_
  go_wp2_with fail
  refine Lex.lexQ_normal (fun _ => HSE.out) ?_
  refine Lex.lex_nil ?_
  go_wp2
  have r0 := HE.out.cell 0
  have r1 := HE.out.cell 1
  have r2 := HE.out.cell 2
  have r3 := HE.out.cell 3
  refine bodyPost_ret (v := .tuple #[.agg #[.int .i64 q, .string ⟨#[]⟩, .int .i64 0, .slice (some ⟨BS, 0, none⟩) 2 2], .bool false]) ?_ rfl ⟨q, [], 0, _, 2, 2, ws9, m9, rfl, HRE.out, HFE.out⟩
  simp [set4] at r0 r1 r2 r3
  simp [results, Tryz.results48, go_sem, r0, r1, r2, r3]
end Go.Proofs.YtobpacebpiabcaaGreatDoor
