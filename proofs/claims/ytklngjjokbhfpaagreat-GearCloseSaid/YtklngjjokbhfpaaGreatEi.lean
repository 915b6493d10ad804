/- few (printed by genei.py). -/
import Derived.Test.YtklngjjokbhfpaaGreatLz
import Derived.Test.YtklngjjokbhfpaaGreatPkCa
import Derived.ArgAppend
namespace Go.Proofs.YtklngjjokbhfpaaGreat
open Go.RowKit
open Go.Lib (hid)
open Go.Proofs.Lex (all_cons all_nil full lexQ_normal lex_do lex_nil ob_eager ob_step wp_region_mix)
set_option maxRecDepth 100000
set_option maxHeartbeats 3200000
def IntsT (w : World) (A : Option Addr) (xs : List Int) : Prop := Ints .i64 w A xs ∧ (xs = [] ∨ ∃ b off cs, A = some ⟨b, off, none⟩ ∧ w.heap[b]? = some (.cells cs 3 (0, 0)))
theorem heap_lt {w : World} {B : Nat} {o : Obj} (h : w.heap[B]? = some o) : B < w.heap.size := (Array.getElem?_eq_some_iff.1 h).1
theorem IntsT.below {w w' : World} {A : Option Addr} {xs : List Int} (h : IntsT w A xs) (hb : Below w.heap.size w w') : IntsT w' A xs := by
 refine ⟨h.1.below hb, ?_⟩
 rcases h.2 with h2 | ⟨b, off, cs, h1, h2⟩
 ·
  exact .inl h2
 ·
  exact .inr ⟨b, off, cs, h1, (hb.block b (heap_lt h2)).trans h2⟩
theorem IntsT.setCell {w : World} {A : Option Addr} {xs : List Int} (h : IntsT w A xs) (R j : Nat) (u : Value) {vs : Array Value} {t : TypeId} (hR : w.heap[R]? = some (.cells vs t (0, 0))) (ht : t ≠ 3) : IntsT (w.setCell ⟨R, j, none⟩ u) A xs := by
 rcases h.2 with h2 | ⟨b, off, cs, h1, h2⟩
 ·
  exact ⟨by rw [h2]; exact .inl rfl, .inl h2⟩
 ·
  have hne : b ≠ R := by
   rintro rfl
   rw [hR] at h2
   injection h2 with h2
   injection h2 with h3 h4
   exact ht h4
  have hb := Below.heap_setCell w ⟨R, j, none⟩ u b hne
  refine ⟨?_, .inr ⟨b, off, cs, h1, hb.trans h2⟩⟩
  rcases h.1 with h | ⟨b', off', hA, hb', hc⟩
  ·
   exact .inl h
  ·
   obtain ⟨rfl, rfl⟩ : b = b' ∧ off = off' := by rw [h1] at hA; injection hA with hA; injection hA with e1 e2; exact ⟨e1, e2⟩
   exact .inr ⟨b, off, hA, by simpa [World.setCell] using hb', fun j v hj => by rw [World.cell?_of_block hb]; exact hc j v hj⟩
theorem IntsT.set01 {w : World} {A : Option Addr} {xs : List Int} (h : IntsT w A xs) {R : Nat} {v0 v1 : Value} {t : TypeId} (hR : Two w R v0 v1 t) (ht : t ≠ 3) (u0 u1 : Value) : IntsT ((w.setCell ⟨R, 0, none⟩ u0).setCell ⟨R, 1, none⟩ u1) A xs :=
 (h.setCell R 0 u0 hR ht).setCell R 1 u1 (hR.set0 u0) ht
theorem wpList_lit {ops : Array Oper} {rest : List Oper} {o : Oper} {a : Act} {Q : Exit → Act → World → Prop} (w : World) (hgd : o.guard = none) (s x : Operand)
  (ho : o.op = .call { callee := .builtin .append, args := #[s, x], argTypes := #[22, 22] })
  (B : Nat) (hBe : w.heap[B]? = some (.cells #[] 3 (0, 0))) (hs : a.eval s = .slice (some ⟨B, 0, none⟩) 0 0)
  (A : Option Addr) (m c : Nat) (ys : List Int) (hx : a.eval x = .slice A m c) (hy : Ints .i64 w A ys) (hym : ys.length = m) (hmc : m ≤ c) (hA : A = none → c = 0)
  (hn : m ≤ 1000000)
  (h : ∀ (A' : Addr) (c' : Nat) (w' : World), Below w.heap.size w w' → IntsT w' (some A') ys → m ≤ c' → c' ≤ maxLen → wpList Tryz.prog ops Q rest (a.put o.dst (.slice (some A') m c')) w') : wpList Tryz.prog ops Q (o :: rest) a w := by
 obtain ⟨i0, hi0, hz0, hz1, hz2⟩ := info_parts elemI.info
 cases A with
 | some ad =>
  refine wpList_append_arg w hgd s x 22 ho 3 i0 _ 1 8 elemI.under hi0 hz0 hz1 hz2 rfl (by omega) B 0 0 0 [] hs rfl (fun j u hj => by simp at hj) ad m c (ys.map (Value.int .i64)) hx (by simpa using hym) hy.news (by intro u hu; simp at hu; obtain ⟨z, _, rfl⟩ := hu; rfl)
   (fun hr j hj => by simp at hj; omega) (by unfold maxLen; omega) (by omega) (fun hr => ?_) (fun hr v' w' hown hgrow => ?_)
  ·
   have hm0 : m = 0 := by omega
   subst hm0
   obtain rfl : ys = [] := List.eq_nil_of_length_eq_zero hym
   have e1 : w.setCells B (0 + 0 * 1) (([] : List Int).map (Value.int .i64)) = w := rfl
   rw [e1]
   exact h ⟨B, 0, none⟩ 0 w (Below.refl _ _) ⟨.inl rfl, .inl rfl⟩ (Nat.le_refl _) (by unfold maxLen; omega)
  ·
   have hb : Below w.heap.size w w' := ⟨hgrow.os, hgrow.tape, hgrow.output, hgrow.size, fun k hk => hgrow.block k hk (by simp)⟩
   have hO : Own 3 .i64 w' w.heap.size v' m ys := by
    have := hown
    simp only [Nat.zero_add, List.nil_append] at this
    exact this
   obtain ⟨g, cap, rfl, hg1, hg2⟩ := hO.form (by omega)
   obtain ⟨A', c', hv, _, h1, h2, _⟩ := hO.sli
   injection hv with e1 e2 e3
   subst e1 e3
   refine h _ _ w' hb ⟨hO.ints, ?_⟩ (by omega) (by omega)
   rcases hO.2 with ⟨hn, _⟩ | ⟨g', cap', cur, e1, e2, e3, _⟩
   ·
    cases hn
   ·
    injection e1 with e1
    injection e1 with e1
    injection e1 with e1 e4
    subst e1
    exact .inr ⟨g, 0, cur, rfl, e3⟩
 | none =>
  obtain rfl := hA rfl
  obtain rfl : m = 0 := by omega
  obtain rfl : ys = [] := List.eq_nil_of_length_eq_zero hym
  refine wpList_append_own_none hgd s x 22 ho 0 3 i0 1 elemI.under hi0 (.slice (some ⟨B, 0, none⟩) 0 0) 0 [] hs ?_ hx ?_
  ·
   exact ⟨rfl, .inr ⟨B, 0, #[], rfl, Nat.zero_le _, hBe, Nat.le_refl _, by unfold maxLen; omega, rfl, rfl⟩⟩
  ·
   exact h ⟨B, 0, none⟩ 0 w (Below.refl _ _) ⟨.inl rfl, .inl rfl⟩ (Nat.le_refl _) (by unfold maxLen; omega)
def RetFewT (xs ys : List Int) (w : World) (e : Ending) (w' : World) : Prop :=
 ∃ (A' : Addr) (c' : Nat) (B' : Addr) (d' : Nat), e = .returned (.agg #[.slice (some A') (xs.take 8).length c', .slice (some B') (ys.take 8).length d']) ∧ (xs.take 8).length ≤ c' ∧ c' ≤ maxLen ∧ (ys.take 8).length ≤ d' ∧ d' ≤ maxLen ∧ IntsT w' (some A') (xs.take 8) ∧ IntsT w' (some B') (ys.take 8) ∧ Below w.heap.size w w'
theorem few_typ (A : Option Addr) (n c : Nat) (B : Option Addr) (m d : Nat) (xs ys : List Int) (w : World) (hA : Ints .i64 w A xs) (hB : Ints .i64 w B ys) (hxl : xs.length = n) (hyl : ys.length = m) (hnc : n ≤ c) (hmd : m ≤ d) (hA0 : A = none → c = 0) (hB0 : B = none → d = 0) (hc9 : c ≤ 9223372036854775807) (hd9 : d ≤ 9223372036854775807) :
  Calls Tryz.prog 12 #[.agg #[.slice A n c, .slice B m d]] w (RetFewT xs ys w) := by
 obtain ⟨k, hk⟩ : ∃ k : Nat, k = min n 8 := ⟨_, rfl⟩
 obtain ⟨l, hl⟩ : ∃ l : Nat, l = min m 8 := ⟨_, rfl⟩
 have k1 : (xs.take 8).length = k := by rw [List.length_take, hxl]; omega
 have l1 : (ys.take 8).length = l := by rw [List.length_take, hyl]; omega
 have HX := hid (show Ints .i64 w A xs ∧ (xs.take 8).length = k ∧ k ≤ c ∧ (A = none → c = 0) ∧ k ≤ 8 from ⟨hA, k1, by omega, hA0, by omega⟩)
 have HY := hid (show Ints .i64 w B ys ∧ (ys.take 8).length = l ∧ l ≤ d ∧ (B = none → d = 0) ∧ l ≤ 8 from ⟨hB, l1, by omega, hB0, by omega⟩)
 have mk : (if (8 : Int) < (n : Int) then (8 : Int) else (n : Int)) = (k : Int) := by split <;> omega
 have ml : (if (8 : Int) < (m : Int) then (8 : Int) else (m : Int)) = (l : Int) := by split <;> omega
 have b1 : (0 : Int) ≤ (k : Int) := by omega
 have b2 : (k : Int) ≤ (c : Int) := by omega
 have b3 : (0 : Int) ≤ (l : Int) := by omega
 have b4 : (l : Int) ≤ (d : Int) := by omega
 have b5 : ((k : Int)).toNat = k := by omega
 have b6 : ((l : Int)).toNat = l := by omega
 have b7 : k ≤ c := by omega
 have b8 : l ≤ d := by omega
 have HK1 := hid (show (xs.take 8).length = k ∧ (ys.take 8).length = l from ⟨k1, l1⟩)
 clear hA hB hxl hyl hnc hmd hA0 hB0 hk hl k1 l1
 obtain ⟨W3, hW3⟩ : ∃ W3, W3 = ((w.alloc (.cells #[.slice A n c, .slice B m d] 24)).alloc (.cells #[.slice none 0 0, .slice none 0 0] 24)) := ⟨_, rfl⟩
 have hB : Below w.heap.size w W3 := by rw [hW3]; exact (((Below.refl _ _).alloc (Nat.le_refl _) _).alloc (by simp; try omega) _)
 have HBW := hid hB
 have HF := hid (show Two W3 (w.heap.size) (.slice A n c) (.slice B m d) 24 by rw [hW3]; exact (((Two.newAt _ _ _ _ _ (by simp))).alloc _))
 have HR := hid (show Two W3 (w.heap.size + 1) (.slice none 0 0) (.slice none 0 0) 24 by rw [hW3]; exact (Two.newAt _ _ _ _ _ (by simp)))
 clear hB
 go_enter Tryz.func12, Tryz.ntmps12
 go_upto_region 1 with fail
 rw [← hW3]
 clear hW3
 refine wp_region_mix (fun w' => Two w' w.heap.size (.slice A n c) (.slice B m d) 24)
  [(0, 3), (1, 4), (2, 5), (3, 6), (4, 7), (5, 8), (6, 9), (7, 10), (8, 11), (9, 12), (10, 13), (11, 14), (12, 15), (13, 16), (14, 17), (15, 18), (16, 19), (17, 20)] (fun j => j == 1 || j == 2 || j == 3 || j == 4 || j == 5 || j == 6 || j == 7 || j == 10 || j == 11 || j == 12 || j == 13 || j == 14 || j == 15 || j == 16) (fun j => false) [(18, false), (19, false)]
  (fun i v w' => match i with | 0 => ∃ B, v = .slice (some ⟨B, 0, none⟩) 0 0 ∧ w'.heap[B]? = some (.cells #[] 3 (0, 0)) | 1 => v = .pointer (some ⟨w.heap.size, 0, none⟩) | 2 => v = .slice A n c | 3 => v = .pointer (some ⟨w.heap.size, 0, none⟩) | 4 => v = .slice A n c | 5 => v = .int .i64 (n : Nat) | 6 => v = .int .i64 (k : Nat) | 7 => v = .slice A k c | 8 => ∃ (A' : Addr) (c' : Nat), v = .slice (some A') k c' ∧ k ≤ c' ∧ c' ≤ maxLen ∧ IntsT w' (some A') (xs.take 8) | 9 => ∃ B, v = .slice (some ⟨B, 0, none⟩) 0 0 ∧ w'.heap[B]? = some (.cells #[] 3 (0, 0)) | 10 => v = .pointer (some ⟨w.heap.size, 1, none⟩) | 11 => v = .slice B m d | 12 => v = .pointer (some ⟨w.heap.size, 1, none⟩) | 13 => v = .slice B m d | 14 => v = .int .i64 (m : Nat) | 15 => v = .int .i64 (l : Nat) | 16 => v = .slice B l d | 17 => ∃ (A' : Addr) (c' : Nat), v = .slice (some A') l c' ∧ l ≤ c' ∧ c' ≤ maxLen ∧ IntsT w' (some A') (ys.take 8) | _ => False)
  (by kernel_rfl) (by kernel_rfl) (by kernel_rfl) HF.out (fun w1 w2 hS hb => hS.bl hb) ?_ ?_ ?_
 ·
  refine all_cons ?_ (all_cons ?_ (all_cons ?_ (all_cons ?_ (all_cons ?_ (all_cons ?_ (all_cons ?_ (all_cons ?_ (all_cons ?_ (all_cons ?_ (all_cons ?_ (all_cons ?_ (all_cons ?_ (all_cons ?_ (all_cons ?_ (all_cons ?_ (all_cons ?_ (all_cons ?_ (all_nil))))))))))))))))))
  ·
   exact fun v w1 w2 ⟨B, hv, hB0⟩ hb => ⟨B, hv, (hb.block B (heap_lt hB0)).trans hB0⟩
  ·
   exact fun v w1 w2 h _ => h
  ·
   exact fun v w1 w2 h _ => h
  ·
   exact fun v w1 w2 h _ => h
  ·
   exact fun v w1 w2 h _ => h
  ·
   exact fun v w1 w2 h _ => h
  ·
   exact fun v w1 w2 h _ => h
  ·
   exact fun v w1 w2 h _ => h
  ·
   exact fun v w1 w2 ⟨A', c', hv, h1, h2, hI⟩ hb => ⟨A', c', hv, h1, h2, hI.below hb⟩
  ·
   exact fun v w1 w2 ⟨B, hv, hB0⟩ hb => ⟨B, hv, (hb.block B (heap_lt hB0)).trans hB0⟩
  ·
   exact fun v w1 w2 h _ => h
  ·
   exact fun v w1 w2 h _ => h
  ·
   exact fun v w1 w2 h _ => h
  ·
   exact fun v w1 w2 h _ => h
  ·
   exact fun v w1 w2 h _ => h
  ·
   exact fun v w1 w2 h _ => h
  ·
   exact fun v w1 w2 h _ => h
  ·
   exact fun v w1 w2 ⟨A', c', hv, h1, h2, hI⟩ hb => ⟨A', c', hv, h1, h2, hI.below hb⟩
 ·
  refine all_cons ?_ (all_cons ?_ (all_cons ?_ (all_cons ?_ (all_cons ?_ (all_cons ?_ (all_cons ?_ (all_cons ?_ (all_cons ?_ (all_cons ?_ (all_cons ?_ (all_cons ?_ (all_cons ?_ (all_cons ?_ (all_cons ?_ (all_cons ?_ (all_cons ?_ (all_cons ?_ (all_nil))))))))))))))))))
  ·
   refine ob_step rfl rfl rfl (fun σ w1 hS hB hg K hK => ?_)
   have HK := hid hK
   clear hK
   clear hg
   simp only [full, Act.put, lsts]
   go_wp2_with fail
   exact HK.out _ _ ⟨rfl, (Below.refl _ _).alloc (Nat.le_refl _) _, ⟨w1.heap.size, rfl, heap_alloc_new w1 _⟩, fun h => nomatch h⟩
  ·
   refine ob_eager rfl rfl (fun σ w1 hS hB hg => ⟨.pointer (some ⟨w.heap.size, 0, none⟩), rfl, fun w2 hS => ?_, rfl⟩)
   clear hg
   simp only [full, Act.put, lsts]
   have f0_0 := hS.cell0
   have f0_1 := hS.cell1
   clear hS
   go_simp
   all_goals with_reducible rfl
  ·
   refine ob_eager rfl rfl (fun σ w1 hS hB hg => ⟨.slice A n c, rfl, fun w2 hS => ?_, rfl⟩)
   have g1 : (σ 1) = .pointer (some ⟨w.heap.size, 0, none⟩) := hg (1, 4) (by simp) (by kernel_rfl)
   clear hg
   simp only [full, Act.put, lsts]
   have f0_0 := hS.cell0
   have f0_1 := hS.cell1
   clear hS
   simp only [g1]
   go_simp
   all_goals with_reducible rfl
  ·
   refine ob_eager rfl rfl (fun σ w1 hS hB hg => ⟨.pointer (some ⟨w.heap.size, 0, none⟩), rfl, fun w2 hS => ?_, rfl⟩)
   clear hg
   simp only [full, Act.put, lsts]
   have f0_0 := hS.cell0
   have f0_1 := hS.cell1
   clear hS
   go_simp
   all_goals with_reducible rfl
  ·
   refine ob_eager rfl rfl (fun σ w1 hS hB hg => ⟨.slice A n c, rfl, fun w2 hS => ?_, rfl⟩)
   have g3 : (σ 3) = .pointer (some ⟨w.heap.size, 0, none⟩) := hg (3, 6) (by simp) (by kernel_rfl)
   clear hg
   simp only [full, Act.put, lsts]
   have f0_0 := hS.cell0
   have f0_1 := hS.cell1
   clear hS
   simp only [g3]
   go_simp
   all_goals with_reducible rfl
  ·
   refine ob_eager rfl rfl (fun σ w1 hS hB hg => ⟨.int .i64 (n : Nat), rfl, fun w2 hS => ?_, rfl⟩)
   have g4 : (σ 4) = .slice A n c := hg (4, 7) (by simp) (by kernel_rfl)
   clear hg
   simp only [full, Act.put, lsts]
   have f0_0 := hS.cell0
   have f0_1 := hS.cell1
   clear hS
   simp only [g4]
   go_simp
   all_goals with_reducible rfl
  ·
   refine ob_eager rfl rfl (fun σ w1 hS hB hg => ⟨.int .i64 (k : Nat), rfl, fun w2 hS => ?_, rfl⟩)
   have g5 : (σ 5) = .int .i64 (n : Nat) := hg (5, 8) (by simp) (by kernel_rfl)
   clear hg
   simp only [full, Act.put, lsts]
   have f0_0 := hS.cell0
   have f0_1 := hS.cell1
   clear hS
   simp only [g5]
   go_simp
   all_goals with_reducible rfl
  ·
   refine ob_eager rfl rfl (fun σ w1 hS hB hg => ⟨.slice A k c, rfl, fun w2 hS => ?_, rfl⟩)
   have g2 : (σ 2) = .slice A n c := hg (2, 5) (by simp) (by kernel_rfl)
   have g6 : (σ 6) = .int .i64 (k : Nat) := hg (6, 9) (by simp) (by kernel_rfl)
   clear hg
   simp only [full, Act.put, lsts]
   have f0_0 := hS.cell0
   have f0_1 := hS.cell1
   clear hS
   simp only [g2, g6]
   go_simp
   all_goals with_reducible rfl
  ·
   refine ob_step rfl rfl rfl (fun σ w1 hS hB hg K hK => ?_)
   have HK := hid hK
   clear hK
   have g0 : ∃ B, (σ 0) = .slice (some ⟨B, 0, none⟩) 0 0 ∧ w1.heap[B]? = some (.cells #[] 3 (0, 0)) := hg (0, 3) (by simp) (by kernel_rfl)
   have g7 : (σ 7) = .slice A k c := hg (7, 10) (by simp) (by kernel_rfl)
   clear hg
   simp only [full, Act.put, lsts]
   simp only [g7]
   obtain ⟨BB, gl, hBB⟩ := g0
   simp only [gl]
   refine wpList_lit w1 rfl _ _ rfl BB hBB rfl A k c (xs.take 8) rfl ?_ HX.out.2.1 HX.out.2.2.1 HX.out.2.2.2.1 (by have := HX.out.2.2.2.2; omega) ?_
   ·
    exact (HX.out.1.below (HBW.out.drew.trans (hB.mono HBW.out.size))).take 8
   ·
    intro A' c' w2 hn hI hc1 hc2
    exact HK.out _ _ ⟨rfl, hn, ⟨A', c', rfl, hc1, hc2, hI⟩, fun h => nomatch h⟩
  ·
   refine ob_step rfl rfl rfl (fun σ w1 hS hB hg K hK => ?_)
   have HK := hid hK
   clear hK
   clear hg
   simp only [full, Act.put, lsts]
   go_wp2_with fail
   exact HK.out _ _ ⟨rfl, (Below.refl _ _).alloc (Nat.le_refl _) _, ⟨w1.heap.size, rfl, heap_alloc_new w1 _⟩, fun h => nomatch h⟩
  ·
   refine ob_eager rfl rfl (fun σ w1 hS hB hg => ⟨.pointer (some ⟨w.heap.size, 1, none⟩), rfl, fun w2 hS => ?_, rfl⟩)
   clear hg
   simp only [full, Act.put, lsts]
   have f0_0 := hS.cell0
   have f0_1 := hS.cell1
   clear hS
   go_simp
   all_goals with_reducible rfl
  ·
   refine ob_eager rfl rfl (fun σ w1 hS hB hg => ⟨.slice B m d, rfl, fun w2 hS => ?_, rfl⟩)
   have g10 : (σ 10) = .pointer (some ⟨w.heap.size, 1, none⟩) := hg (10, 13) (by simp) (by kernel_rfl)
   clear hg
   simp only [full, Act.put, lsts]
   have f0_0 := hS.cell0
   have f0_1 := hS.cell1
   clear hS
   simp only [g10]
   go_simp
   all_goals with_reducible rfl
  ·
   refine ob_eager rfl rfl (fun σ w1 hS hB hg => ⟨.pointer (some ⟨w.heap.size, 1, none⟩), rfl, fun w2 hS => ?_, rfl⟩)
   clear hg
   simp only [full, Act.put, lsts]
   have f0_0 := hS.cell0
   have f0_1 := hS.cell1
   clear hS
   go_simp
   all_goals with_reducible rfl
  ·
   refine ob_eager rfl rfl (fun σ w1 hS hB hg => ⟨.slice B m d, rfl, fun w2 hS => ?_, rfl⟩)
   have g12 : (σ 12) = .pointer (some ⟨w.heap.size, 1, none⟩) := hg (12, 15) (by simp) (by kernel_rfl)
   clear hg
   simp only [full, Act.put, lsts]
   have f0_0 := hS.cell0
   have f0_1 := hS.cell1
   clear hS
   simp only [g12]
   go_simp
   all_goals with_reducible rfl
  ·
   refine ob_eager rfl rfl (fun σ w1 hS hB hg => ⟨.int .i64 (m : Nat), rfl, fun w2 hS => ?_, rfl⟩)
   have g13 : (σ 13) = .slice B m d := hg (13, 16) (by simp) (by kernel_rfl)
   clear hg
   simp only [full, Act.put, lsts]
   have f0_0 := hS.cell0
   have f0_1 := hS.cell1
   clear hS
   simp only [g13]
   go_simp
   all_goals with_reducible rfl
  ·
   refine ob_eager rfl rfl (fun σ w1 hS hB hg => ⟨.int .i64 (l : Nat), rfl, fun w2 hS => ?_, rfl⟩)
   have g14 : (σ 14) = .int .i64 (m : Nat) := hg (14, 17) (by simp) (by kernel_rfl)
   clear hg
   simp only [full, Act.put, lsts]
   have f0_0 := hS.cell0
   have f0_1 := hS.cell1
   clear hS
   simp only [g14]
   go_simp
   all_goals with_reducible rfl
  ·
   refine ob_eager rfl rfl (fun σ w1 hS hB hg => ⟨.slice B l d, rfl, fun w2 hS => ?_, rfl⟩)
   have g11 : (σ 11) = .slice B m d := hg (11, 14) (by simp) (by kernel_rfl)
   have g15 : (σ 15) = .int .i64 (l : Nat) := hg (15, 18) (by simp) (by kernel_rfl)
   clear hg
   simp only [full, Act.put, lsts]
   have f0_0 := hS.cell0
   have f0_1 := hS.cell1
   clear hS
   simp only [g11, g15]
   go_simp
   all_goals with_reducible rfl
  ·
   refine ob_step rfl rfl rfl (fun σ w1 hS hB hg K hK => ?_)
   have HK := hid hK
   clear hK
   have g9 : ∃ B, (σ 9) = .slice (some ⟨B, 0, none⟩) 0 0 ∧ w1.heap[B]? = some (.cells #[] 3 (0, 0)) := hg (9, 12) (by simp) (by kernel_rfl)
   have g16 : (σ 16) = .slice B l d := hg (16, 19) (by simp) (by kernel_rfl)
   clear hg
   simp only [full, Act.put, lsts]
   simp only [g16]
   obtain ⟨BB, gl, hBB⟩ := g9
   simp only [gl]
   refine wpList_lit w1 rfl _ _ rfl BB hBB rfl B l d (ys.take 8) rfl ?_ HY.out.2.1 HY.out.2.2.1 HY.out.2.2.2.1 (by have := HY.out.2.2.2.2; omega) ?_
   ·
    exact (HY.out.1.below (HBW.out.drew.trans (hB.mono HBW.out.size))).take 8
   ·
    intro A' c' w2 hn hI hc1 hc2
    exact HK.out _ _ ⟨rfl, hn, ⟨A', c', rfl, hc1, hc2, hI⟩, fun h => nomatch h⟩
 ·
  intro σ V hS hB hg hd
  have e0 : ∃ B, (σ 0) = .slice (some ⟨B, 0, none⟩) 0 0 ∧ V.heap[B]? = some (.cells #[] 3 (0, 0)) := hg (0, 3) (by simp)
  have e1 : (σ 1) = .pointer (some ⟨w.heap.size, 0, none⟩) := hg (1, 4) (by simp)
  have e2 : (σ 2) = .slice A n c := hg (2, 5) (by simp)
  have e3 : (σ 3) = .pointer (some ⟨w.heap.size, 0, none⟩) := hg (3, 6) (by simp)
  have e4 : (σ 4) = .slice A n c := hg (4, 7) (by simp)
  have e5 : (σ 5) = .int .i64 (n : Nat) := hg (5, 8) (by simp)
  have e6 : (σ 6) = .int .i64 (k : Nat) := hg (6, 9) (by simp)
  have e7 : (σ 7) = .slice A k c := hg (7, 10) (by simp)
  have e8 : ∃ (A' : Addr) (c' : Nat), (σ 8) = .slice (some A') k c' ∧ k ≤ c' ∧ c' ≤ maxLen ∧ IntsT V (some A') (xs.take 8) := hg (8, 11) (by simp)
  have e9 : ∃ B, (σ 9) = .slice (some ⟨B, 0, none⟩) 0 0 ∧ V.heap[B]? = some (.cells #[] 3 (0, 0)) := hg (9, 12) (by simp)
  have e10 : (σ 10) = .pointer (some ⟨w.heap.size, 1, none⟩) := hg (10, 13) (by simp)
  have e11 : (σ 11) = .slice B m d := hg (11, 14) (by simp)
  have e12 : (σ 12) = .pointer (some ⟨w.heap.size, 1, none⟩) := hg (12, 15) (by simp)
  have e13 : (σ 13) = .slice B m d := hg (13, 16) (by simp)
  have e14 : (σ 14) = .int .i64 (m : Nat) := hg (14, 17) (by simp)
  have e15 : (σ 15) = .int .i64 (l : Nat) := hg (15, 18) (by simp)
  have e16 : (σ 16) = .slice B l d := hg (16, 19) (by simp)
  have e17 : ∃ (A' : Addr) (c' : Nat), (σ 17) = .slice (some A') l c' ∧ l ≤ c' ∧ c' ≤ maxLen ∧ IntsT V (some A') (ys.take 8) := hg (17, 20) (by simp)
  clear hg hd
  simp only [full, Act.put, lsts]
  generalize σ 0 = s0 at *
  generalize σ 1 = s1 at *
  generalize σ 2 = s2 at *
  generalize σ 3 = s3 at *
  generalize σ 4 = s4 at *
  generalize σ 5 = s5 at *
  generalize σ 6 = s6 at *
  generalize σ 7 = s7 at *
  generalize σ 8 = s8 at *
  generalize σ 9 = s9 at *
  generalize σ 10 = s10 at *
  generalize σ 11 = s11 at *
  generalize σ 12 = s12 at *
  generalize σ 13 = s13 at *
  generalize σ 14 = s14 at *
  generalize σ 15 = s15 at *
  generalize σ 16 = s16 at *
  generalize σ 17 = s17 at *
  clear σ
  clear e0
  subst e1
  subst e2
  subst e3
  subst e4
  subst e5
  subst e6
  subst e7
  obtain ⟨A8, c8, rfl, p8, q8, I8⟩ := e8
  clear e9
  subst e10
  subst e11
  subst e12
  subst e13
  subst e14
  subst e15
  subst e16
  obtain ⟨A17, c17, rfl, p17, q17, I17⟩ := e17
  have HBm := hid (show Below w.heap.size w V from HBW.out.drew.trans (hB.mono HBW.out.size))
  have HBb := hid (show Below W3.heap.size W3 V from ⟨hB.os, hB.tape, hB.output, hB.size, hB.block⟩)
  have HSm := hid hS
  clear hB hS
  refine lex_do rfl ?_
  have HR4 := HR.out.bl HBb.out
  have lF := HF.out.lt
  have r0 := HR4.cell0
  have r1 := HR4.cell1
  have g0 := HR4.free 0
  have g1 := HR4.free 1
  go_wp2_with fail
  refine lexQ_normal (fun _ => HSm.out) (lex_do rfl ?_)
  have E0 := (HSm.out.setOther ⟨w.heap.size + 1, 0, none⟩ (.slice (some A8) k c8) (by dsimp only; omega)).setOther ⟨w.heap.size + 1, 1, none⟩ (.slice (some A17) l c17) (by dsimp only; omega)
  have HE0 := hid E0
  have HI8 := hid ((I8.set01 HR4 (by decide) (.slice (some A8) k c8) (.slice (some A17) l c17)))
  have HI17 := hid ((I17.set01 HR4 (by decide) (.slice (some A8) k c8) (.slice (some A17) l c17)))
  have HP := hid (show k ≤ c8 ∧ c8 ≤ maxLen ∧ l ≤ c17 ∧ c17 ≤ maxLen from ⟨p8, q8, p17, q17⟩)
  clear E0 HR4 I8 I17 p8 q8 p17 q17
  go_wp2_with fail
  refine lexQ_normal (fun _ => HE0.out) ?_
  refine lex_nil ?_
  go_wp2
  unfold RetFewT
  rw [HK1.out.1, HK1.out.2]
  refine bodyPost_ret (v := .agg #[.slice (some A8) k c8, .slice (some A17) l c17]) (by simp [results, Tryz.results12, go_sem, r0, r1]) rfl ⟨A8, c8, A17, c17, rfl, HP.out.1, HP.out.2.1, HP.out.2.2.1, HP.out.2.2.2, HI8.out, HI17.out, ?_⟩
  exact (HBm.out.setCell (by dsimp only; omega) _).setCell (by dsimp only; omega) _
end Go.Proofs.YtklngjjokbhfpaaGreat
