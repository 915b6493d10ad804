/- Texts El En in one. -/
import Derived.Test.YtobpacebpiabcaaGreatDoorPkEh
import Derived.Test.YtobpacebpiabcaaGreatDoorPkDfb
import Derived.Test.YtobpacebpiabcaaGreatDoorPkDg
namespace Go.Proofs.YtobpacebpiabcaaGreatDoor
open Go.RowKit Go.Lib

/-- What Step returns of a bad event. -/
def RetBadS (w : World) (e : Ending) (w' : World) : Prop := e = .returned (.tuple #[.bool false, .int .i64 1]) ∧ Below w.heap.size w w'
set_option maxHeartbeats 6400000 in
theorem step_low {w : World} {P : Nat} {T : TypeId} {v : Value} {last d : Int} {u : Value} {ms : List (List UInt8)} (hb : Blk w P #[.iface T v, .int .i64 last] 94) (hx : StrV w u ms) (hd : d < last) :
    Calls Tryz.prog 15 #[.pointer (some ⟨P, 0, none⟩), .agg #[.int .i64 d, u]] w (RetBadS w) := by
  have hdl : decide (d < last) = true := decide_eq_true hd
  obtain ⟨A, m, cu, rfl⟩ : ∃ A m c, u = .slice A m c := hx.form
  obtain ⟨W3, hW3⟩ : ∃ W3, W3 = w.alloc (.cells #[.int .i64 d, .slice A m cu] 38) := ⟨_, rfl⟩
  have HB3 := Lib.hid (show Below w.heap.size w W3 by rw [hW3]; exact (Below.refl _ _).alloc (Nat.le_refl _) _)
  have HE3 := Lib.hid (show Blk W3 w.heap.size #[.int .i64 d, .slice A m cu] 38 by rw [hW3]; exact Blk.new _ _ _)
  have HM3 := Lib.hid (hb.below HB3.out)
  have hm3 := made_mon HM3.out
  have HC0 := Lib.hid (And.intro (HE3.out.cell 0) HE3.out.lt)
  have HC1 := Lib.hid (And.intro (HE3.out.cell 1) HE3.out.lt)
  have HC2 := Lib.hid (And.intro (HM3.out.cell 1) HM3.out.lt)
  skip
  have HPO := Lib.hid (show ∀ w', Below w.heap.size w w' → RetBadS w (.returned (.tuple #[.bool false, .int .i64 1])) w' from fun w' h => ⟨rfl, h⟩)
  generalize hPost : RetBadS w = Post at *
  clear hPost hb hx
  go_enter Tryz.func15, Tryz.ntmps15
  go_upto_region 1 with fail
  rw [← hW3]
  clear hW3
  go_wp2_with fail
  refine hm3.mono ?_
  rintro e W ⟨rfl, rfl⟩
  clear hm3
  go_upto_region 3 with fail
  refine Lex.wp_region_lex (fun w' => Below W3.heap.size W3 w') (fun _ => true)
    [(0, true), (1, true), (2, true), (3, true), (4, true), (5, true), (6, true), (7, true), (8, true), (9, true), (10, true), (11, true), (12, true), (13, true), (14, true), (15, true), (16, true), (17, true), (18, false)]
    (by kernel_rfl) (by kernel_rfl) (by kernel_rfl) (by kernel_rfl) ⟨rfl, rfl, rfl, Nat.le_refl _, fun _ _ => rfl⟩ ?_
  have hb0 : Below W3.heap.size W3 W3.drew := ⟨rfl, rfl, rfl, Nat.le_refl _, fun _ _ => rfl⟩
  have hw0 : Below w.heap.size w W3.drew := ⟨HB3.out.os, HB3.out.tape, HB3.out.output, HB3.out.size, HB3.out.block⟩
  generalize hV0 : W3.drew = V0 at *
  clear hV0
  iterate 8 (refine Lex.lex_take (v := ?_) rfl rfl (by rfl) (fun _ hS => ?_) ?_; rotate_left 1; (focus (have g0 := (hS.cell HC0.out.2).trans HC0.out.1; have g1 := (hS.cell HC1.out.2).trans HC1.out.1; have g2 := (hS.cell HC2.out.2).trans HC2.out.1; clear hS; go_simp; with_reducible rfl)); simp only [List.setIfInBounds_toArray, List.set_cons_zero, List.set_cons_succ])
  iterate 3 (refine Lex.lex_skip rfl rfl (by rfl) ?_; simp only [List.setIfInBounds_toArray, List.set_cons_zero, List.set_cons_succ])
  iterate 2 (refine Lex.lex_take (v := ?_) rfl rfl (by rfl) (fun _ hS => ?_) ?_; rotate_left 1; (focus (have g0 := (hS.cell HC0.out.2).trans HC0.out.1; have g1 := (hS.cell HC1.out.2).trans HC1.out.1; have g2 := (hS.cell HC2.out.2).trans HC2.out.1; clear hS; go_simp; with_reducible rfl)); simp only [List.setIfInBounds_toArray, List.set_cons_zero, List.set_cons_succ])
  iterate 4 (refine Lex.lex_skip rfl rfl (by rfl) ?_; simp only [List.setIfInBounds_toArray, List.set_cons_zero, List.set_cons_succ])
  refine Lex.lex_take (v := ?_) rfl rfl (by rfl) (fun _ hS => ?_) ?_; rotate_left 1; (focus (have g0 := (hS.cell HC0.out.2).trans HC0.out.1; have g1 := (hS.cell HC1.out.2).trans HC1.out.1; have g2 := (hS.cell HC2.out.2).trans HC2.out.1; clear hS; go_simp; with_reducible rfl)); simp only [List.setIfInBounds_toArray, List.set_cons_zero, List.set_cons_succ]
  refine Lex.lex_do rfl ?_
  go_wp2_with fail
  refine Lex.lexQ_normal (fun _ => hb0) ?_
  refine Lex.lex_nil ?_
  have HW0 := Lib.hid hw0
  go_wp2
  exact HPO.out _ HW0.out
set_option maxHeartbeats 6400000 in
theorem step_high {w : World} {P : Nat} {T : TypeId} {v : Value} {last d : Int} {u : Value} {ms : List (List UInt8)} (hb : Blk w P #[.iface T v, .int .i64 last] 94) (hx : StrV w u ms) (hd : ¬ d < last) (hd2 : 1000000 < d) :
    Calls Tryz.prog 15 #[.pointer (some ⟨P, 0, none⟩), .agg #[.int .i64 d, u]] w (RetBadS w) := by
  have hdl : decide (d < last) = false := decide_eq_false hd
  have hdg : decide (d > 1000000) = true := decide_eq_true hd2
  obtain ⟨A, m, cu, rfl⟩ : ∃ A m c, u = .slice A m c := hx.form
  obtain ⟨W3, hW3⟩ : ∃ W3, W3 = w.alloc (.cells #[.int .i64 d, .slice A m cu] 38) := ⟨_, rfl⟩
  have HB3 := Lib.hid (show Below w.heap.size w W3 by rw [hW3]; exact (Below.refl _ _).alloc (Nat.le_refl _) _)
  have HE3 := Lib.hid (show Blk W3 w.heap.size #[.int .i64 d, .slice A m cu] 38 by rw [hW3]; exact Blk.new _ _ _)
  have HM3 := Lib.hid (hb.below HB3.out)
  have hm3 := made_mon HM3.out
  have HC0 := Lib.hid (And.intro (HE3.out.cell 0) HE3.out.lt)
  have HC1 := Lib.hid (And.intro (HE3.out.cell 1) HE3.out.lt)
  have HC2 := Lib.hid (And.intro (HM3.out.cell 1) HM3.out.lt)
  skip
  have HPO := Lib.hid (show ∀ w', Below w.heap.size w w' → RetBadS w (.returned (.tuple #[.bool false, .int .i64 1])) w' from fun w' h => ⟨rfl, h⟩)
  generalize hPost : RetBadS w = Post at *
  clear hPost hb hx
  go_enter Tryz.func15, Tryz.ntmps15
  go_upto_region 1 with fail
  rw [← hW3]
  clear hW3
  go_wp2_with fail
  refine hm3.mono ?_
  rintro e W ⟨rfl, rfl⟩
  clear hm3
  go_upto_region 3 with fail
  refine Lex.wp_region_lex (fun w' => Below W3.heap.size W3 w') (fun _ => true)
    [(0, true), (1, true), (2, true), (3, true), (4, true), (5, true), (6, true), (7, true), (8, true), (9, true), (10, true), (11, true), (12, true), (13, true), (14, true), (15, true), (16, true), (17, true), (18, false)]
    (by kernel_rfl) (by kernel_rfl) (by kernel_rfl) (by kernel_rfl) ⟨rfl, rfl, rfl, Nat.le_refl _, fun _ _ => rfl⟩ ?_
  have hb0 : Below W3.heap.size W3 W3.drew := ⟨rfl, rfl, rfl, Nat.le_refl _, fun _ _ => rfl⟩
  have hw0 : Below w.heap.size w W3.drew := ⟨HB3.out.os, HB3.out.tape, HB3.out.output, HB3.out.size, HB3.out.block⟩
  generalize hV0 : W3.drew = V0 at *
  clear hV0
  iterate 13 (refine Lex.lex_take (v := ?_) rfl rfl (by rfl) (fun _ hS => ?_) ?_; rotate_left 1; (focus (have g0 := (hS.cell HC0.out.2).trans HC0.out.1; have g1 := (hS.cell HC1.out.2).trans HC1.out.1; have g2 := (hS.cell HC2.out.2).trans HC2.out.1; clear hS; go_simp; with_reducible rfl)); simp only [List.setIfInBounds_toArray, List.set_cons_zero, List.set_cons_succ])
  iterate 4 (refine Lex.lex_skip rfl rfl (by rfl) ?_; simp only [List.setIfInBounds_toArray, List.set_cons_zero, List.set_cons_succ])
  refine Lex.lex_take (v := ?_) rfl rfl (by rfl) (fun _ hS => ?_) ?_; rotate_left 1; (focus (have g0 := (hS.cell HC0.out.2).trans HC0.out.1; have g1 := (hS.cell HC1.out.2).trans HC1.out.1; have g2 := (hS.cell HC2.out.2).trans HC2.out.1; clear hS; go_simp; with_reducible rfl)); simp only [List.setIfInBounds_toArray, List.set_cons_zero, List.set_cons_succ]
  refine Lex.lex_do rfl ?_
  go_wp2_with fail
  refine Lex.lexQ_normal (fun _ => hb0) ?_
  refine Lex.lex_nil ?_
  have HW0 := Lib.hid hw0
  go_wp2
  exact HPO.out _ HW0.out
set_option maxHeartbeats 6400000 in
theorem step_marks {w : World} {P : Nat} {T : TypeId} {v : Value} {last d : Int} {u : Value} {ms : List (List UInt8)} (hb : Blk w P #[.iface T v, .int .i64 last] 94) (hx : StrV w u ms) (hl6 : Lean6 ms) (hn8 : namesB ms 8 = false) (hd : ¬ d < last) (hd2 : ¬ 1000000 < d) :
    Calls Tryz.prog 15 #[.pointer (some ⟨P, 0, none⟩), .agg #[.int .i64 d, u]] w (RetBadS w) := by
  have hdl : decide (d < last) = false := decide_eq_false hd
  have hdg : decide (d > 1000000) = false := decide_eq_false hd2
  have HXV := Lib.hid hx
  obtain ⟨A, m, cu, rfl⟩ : ∃ A m c, u = .slice A m c := hx.form
  obtain ⟨W3, hW3⟩ : ∃ W3, W3 = w.alloc (.cells #[.int .i64 d, .slice A m cu] 38) := ⟨_, rfl⟩
  have HB3 := Lib.hid (show Below w.heap.size w W3 by rw [hW3]; exact (Below.refl _ _).alloc (Nat.le_refl _) _)
  have HE3 := Lib.hid (show Blk W3 w.heap.size #[.int .i64 d, .slice A m cu] 38 by rw [hW3]; exact Blk.new _ _ _)
  have HM3 := Lib.hid (hb.below HB3.out)
  have hm3 := made_mon HM3.out
  have HC0 := Lib.hid (And.intro (HE3.out.cell 0) HE3.out.lt)
  have HC1 := Lib.hid (And.intro (HE3.out.cell 1) HE3.out.lt)
  have HC2 := Lib.hid (And.intro (HM3.out.cell 1) HM3.out.lt)
  have cm := fun (W : World) (h : Below W3.heap.size W3 W) => marked_any ((HXV.out.below HB3.out).below h) hl6; rw [hn8] at cm
  have HPO := Lib.hid (show ∀ w', Below w.heap.size w w' → RetBadS w (.returned (.tuple #[.bool false, .int .i64 1])) w' from fun w' h => ⟨rfl, h⟩)
  generalize hPost : RetBadS w = Post at *
  clear hPost hb hx hl6 hn8
  go_enter Tryz.func15, Tryz.ntmps15
  go_upto_region 1 with fail
  rw [← hW3]
  clear hW3
  go_wp2_with fail
  refine hm3.mono ?_
  rintro e W ⟨rfl, rfl⟩
  clear hm3
  go_upto_region 3 with fail
  refine Lex.wp_region_lex (fun w' => Below W3.heap.size W3 w') (fun _ => true)
    [(0, true), (1, true), (2, true), (3, true), (4, true), (5, true), (6, true), (7, true), (8, true), (9, true), (10, true), (11, true), (12, true), (13, true), (14, true), (15, false), (16, true), (17, true), (18, false)]
    (by kernel_rfl) (by kernel_rfl) (by kernel_rfl) (by kernel_rfl) ⟨rfl, rfl, rfl, Nat.le_refl _, fun _ _ => rfl⟩ ?_
  have hb0 : Below W3.heap.size W3 W3.drew := ⟨rfl, rfl, rfl, Nat.le_refl _, fun _ _ => rfl⟩
  have hw0 : Below w.heap.size w W3.drew := ⟨HB3.out.os, HB3.out.tape, HB3.out.output, HB3.out.size, HB3.out.block⟩
  generalize hV0 : W3.drew = V0 at *
  clear hV0
  iterate 15 (refine Lex.lex_take (v := ?_) rfl rfl (by rfl) (fun _ hS => ?_) ?_; rotate_left 1; (focus (have g0 := (hS.cell HC0.out.2).trans HC0.out.1; have g1 := (hS.cell HC1.out.2).trans HC1.out.1; have g2 := (hS.cell HC2.out.2).trans HC2.out.1; clear hS; go_simp; with_reducible rfl)); simp only [List.setIfInBounds_toArray, List.set_cons_zero, List.set_cons_succ])
  refine Lex.lex_do rfl ?_
  have cc := cm V0 hb0
  go_wp2_with fail
  refine cc.mono ?_
  rintro e V1 ⟨rfl, hn1⟩
  have hb1 := hb0.trans (hn1.mono hb0.size)
  have hw1 := hw0.trans (hn1.mono hw0.size)
  clear cc hb0 hw0
  clear hn1
  go_wp2_with fail
  refine Lex.lexQ_normal (fun _ => hb1) ?_
  iterate 2 (refine Lex.lex_take (v := ?_) rfl rfl (by rfl) (fun _ hS => ?_) ?_; rotate_left 1; (focus (have g0 := (hS.cell HC0.out.2).trans HC0.out.1; have g1 := (hS.cell HC1.out.2).trans HC1.out.1; have g2 := (hS.cell HC2.out.2).trans HC2.out.1; clear hS; go_simp; with_reducible rfl)); simp only [List.setIfInBounds_toArray, List.set_cons_zero, List.set_cons_succ])
  refine Lex.lex_do rfl ?_
  go_wp2_with fail
  refine Lex.lexQ_normal (fun _ => hb1) ?_
  refine Lex.lex_nil ?_
  have HW1 := Lib.hid hw1
  go_wp2
  exact HPO.out _ HW1.out
/-- Step refuses an event that is not valid. -/
theorem step_bad {w : World} {P : Nat} {v : Value} {log : List Ev} {t : Tm} {B : List Nat} {last d : Int} {u : Value} {ms : List (List UInt8)} (hb : Blk w P #[v, .int .i64 last] 94) (hp : PartM w log t v B) (hx : StrV w u ms) (hl6 : Lean6 ms) (hn : (decide (last ≤ d) && decide (d ≤ 1000000) && namesB ms 8) = false) :
    Calls Tryz.prog 15 #[.pointer (some ⟨P, 0, none⟩), .agg #[.int .i64 d, u]] w (RetBadS w) := by
  obtain ⟨T, pb, rfl⟩ := hp.form
  by_cases h1 : d < last
  · exact step_low hb hx h1
  by_cases h2 : 1000000 < d
  · exact step_high hb hx h1 h2
  · refine step_marks hb hx hl6 ?_ h1 h2
    rw [decide_eq_true (show last ≤ d by omega), decide_eq_true (show d ≤ 1000000 by omega)] at hn
    simpa using hn
end Go.Proofs.YtobpacebpiabcaaGreatDoor

namespace Go.Proofs.YtobpacebpiabcaaGreatDoor
open Go.RowKit Go.Lib

theorem daysOk_snoc {log : List Ev} (h : DaysOk log) {d : Int} (ms : List (List UInt8)) (h0 : 0 ≤ d) (h1 : d ≤ 1000000) : DaysOk (log ++ [(d, ms)]) := fun i => by
  rcases Nat.lt_trichotomy i log.length with hi | hi | hi
  · rw [((at_snoc log (d, ms) i).1 hi).1]; exact h i
  · rw [((at_snoc log (d, ms) i).2 hi).1]; exact ⟨h0, h1⟩
  · unfold dayAt
    rw [List.getD_eq_getElem?_getD, List.getElem?_eq_none (by simp; omega)]
    simp
theorem RetNew.yes {t : Tm} {w w' : World} {e : Ending} (h : RetNew t w e w') (ho : t.ok = true) : ∃ P p B, e = .returned (.tuple #[.pointer (some ⟨P, 0, none⟩), .int .i64 0]) ∧ Blk w' P #[p, .int .i64 0] 94 ∧ PartM w' [] t p B ∧ (∀ x ∈ B, w.heap.size ≤ x ∧ x ≠ P) ∧ w.heap.size ≤ P ∧ Below w.heap.size w w' := by
  rcases h with ⟨_, h⟩ | ⟨h, _⟩
  · exact h
  · rw [ho] at h; cases h
theorem RetNew.no {t : Tm} {w w' : World} {e : Ending} (h : RetNew t w e w') (ho : t.ok = false) : e = .returned (.tuple #[.pointer none, .int .i64 1]) ∧ Below w.heap.size w w' := by
  rcases h with ⟨h, _⟩ | ⟨_, h⟩
  · rw [ho] at h; cases h
  · exact h
theorem fewM_len (log : List Ev) (most : Nat) (h : most ≤ 257) : (fewM log most).length ≤ 257 := by
  unfold fewM cutE
  split <;> simp <;> omega
/-- A row of events of the call's own; their marks lie in blocks of the world W0. -/
def OwnEvI (W0 w : World) (base : Nat) (v : Value) (l : List Ev) : Prop :=
  ∃ us, us.length = l.length ∧ w.ownsRow base 38 2 v l.length (flatE l us) ∧ ∀ k u, us[k]? = some u → StrV W0 u (marksAt l k)
theorem StrV.strN {W0 w : World} {u : Value} {l : List (List UInt8)} (h : StrV W0 u l) (hb : Below W0.heap.size W0 w) {nb : Option Nat} (hn : ∀ b, nb = some b → W0.heap.size ≤ b) : StrN nb w u l := by
  obtain ⟨A, c, h1, h2, h3, h4, h5⟩ := h
  refine ⟨A, c, h1, h2, h3, h4, ?_⟩
  rcases h5 with h5 | ⟨b, off, hA, hlt, hc⟩
  · exact .inl (List.map_eq_nil_iff.1 h5)
  · exact .inr ⟨b, off, hA, fun e => by have := hn b e; omega, Nat.lt_of_lt_of_le hlt hb.size, fun j v hj => (hb.cell (p := ⟨b, off + j, none⟩) hlt).trans (hc j v hj)⟩
theorem OwnEvI.evV {W0 w : World} {base : Nat} {v : Value} {l : List Ev} (h : OwnEvI W0 w base v l) (hb : Below W0.heap.size W0 w) (hlo : W0.heap.size ≤ base) : EvV w v l := by
  obtain ⟨us, h1, h2, h3⟩ := h
  exact OwnEv.evV ⟨us, h1, h2, fun k u hk => (h3 k u hk).strN hb (fun b e => Nat.le_trans hlo (h2.lt b e).1)⟩
theorem OwnEvI.keep {W0 w w' : World} {base : Nat} {v : Value} {l : List Ev} (h : OwnEvI W0 w base v l) (hk : ∀ b, v.ownBlock = some b → b < w.heap.size → w'.heap[b]? = w.heap[b]?) : OwnEvI W0 w' base v l := by
  obtain ⟨us, h1, h2, h3⟩ := h
  exact ⟨us, h1, row_below h2 hk, h3⟩
theorem OwnEvI.below {W0 w w' : World} {base : Nat} {v : Value} {l : List Ev} (h : OwnEvI W0 w base v l) (hb : Below w.heap.size w w') : OwnEvI W0 w' base v l := h.keep (fun b _ hl => hb.block b hl)
theorem OwnEvI.fr {W0 w w' : World} {base : Nat} {v : Value} {l : List Ev} {S : List Nat} (h : OwnEvI W0 w base v l) (hf : Fr S w w') (hS : ∀ x ∈ S, x < base) : OwnEvI W0 w' base v l := by
  obtain ⟨us, h1, h2, h3⟩ := h
  exact OwnEvI.keep ⟨us, h1, h2, h3⟩ (fun b e hl => hf.block b hl (fun hm => by have h4 := (h2.lt b e).1; have := hS b hm; omega))
theorem OwnEvI.nil (W0 w : World) (base : Nat) (v : Value) (h : w.ownsRow base 38 2 v 0 []) : OwnEvI W0 w base v [] := ⟨[], rfl, h, fun k u hk => by simp at hk⟩
theorem OwnEvI.form {W0 w : World} {base : Nat} {v : Value} {l : List Ev} (h : OwnEvI W0 w base v l) : ∃ A c, v = .slice A l.length c := by
  obtain ⟨us, h1, h2, h3⟩ := h
  rcases h2.2 with ⟨g1, g2⟩ | ⟨g, cap, cur, g1, _⟩
  · exact ⟨none, 0, by rw [g2]; exact g1⟩
  · exact ⟨_, cap, g1⟩
theorem OwnEvI.more {W0 w' : World} {base : Nat} {l : List Ev} {g cap : Nat} {d : Int} {u : Value} {ms : List (List UInt8)} (us : List Value) (h1 : us.length = l.length) (h3 : ∀ k u, us[k]? = some u → StrV W0 u (marksAt l k)) (hu : StrV W0 u ms)
    (hown : w'.ownsRow base 38 2 (.slice (some ⟨g, 0, none⟩) (l.length + 1) cap) (l.length + 1) (flatE l us ++ #[.int .i64 d, u].toList)) : OwnEvI W0 w' base (.slice (some ⟨g, 0, none⟩) (l.length + 1) cap) (l ++ [(d, ms)]) := by
  refine ⟨us ++ [u], by simp [h1], ?_, fun k y hk => ?_⟩
  · rw [flatE_app l us (d, ms) u h1]
    simpa using hown
  · rcases Nat.lt_or_ge k us.length with hlt | hge
    · rw [List.getElem?_append_left hlt] at hk
      rw [((at_snoc l (d, ms) k).1 (by omega)).2]
      exact h3 k y hk
    · rw [List.getElem?_append_right hge] at hk
      have hk0 : k - us.length = 0 := by
        rcases Nat.eq_zero_or_pos (k - us.length) with h | h
        · exact h
        · rw [List.getElem?_eq_none (by simp; omega)] at hk; cases hk
      rw [hk0] at hk
      have : u = y := by simpa using hk
      subst this
      rw [((at_snoc l (d, ms) k).2 (by omega)).2]
      exact hu

/-! Logs all of whose events are valid, however many. -/
theorem daysOk_to {log : List Ev} (h : logTo log log.length = true) : DaysOk log := fun i => by
  by_cases hi : i < log.length
  · have h1 := evAt_of h hi
    have h0 : 0 ≤ lastDay log i := lastDay_pos (by
      unfold logTo
      rw [List.all_eq_true]
      intro q hq
      exact evAt_of h (by have := List.mem_range.1 hq; omega))
    simp only [evAt, Bool.and_eq_true, decide_eq_true_eq] at h1
    omega
  · unfold dayAt
    rw [List.getD_eq_getElem?_getD, List.getElem?_eq_none (by omega)]
    simp
theorem rising_to {log : List Ev} (h : logTo log log.length = true) : Rising log := by
  have hd := daysOk_to h
  refine ⟨fun i j hij hj => ?_, fun i => (hd i).1⟩
  induction j with
  | zero => have : i = 0 := by omega
            subst this; exact Int.le_refl _
  | succ j ih =>
    rcases Nat.lt_or_ge i (j + 1) with hlt | hge
    · have h1 := ih (by omega) (by omega)
      have h2 := evAt_of h hj
      simp only [evAt, Bool.and_eq_true, decide_eq_true_eq] at h2
      rw [lastDay_succ] at h2
      omega
    · have : i = j + 1 := by omega
      subst this; exact Int.le_refl _
theorem lastDay_app (log : List Ev) (e : Ev) {i : Nat} (hi : i ≤ log.length) : lastDay (log ++ [e]) i = lastDay log i := by
  unfold lastDay
  by_cases h0 : i = 0
  · rw [if_pos h0, if_pos h0]
  · rw [if_neg h0, if_neg h0]; exact ((at_snoc log e (i - 1)).1 (by omega)).1
theorem lastDay_snoc (log : List Ev) (e : Ev) : lastDay (log ++ [e]) (log ++ [e]).length = e.1 := by
  rw [List.length_append]
  show lastDay (log ++ [e]) (log.length + 1) = _
  rw [lastDay_succ]
  exact ((at_snoc log e log.length).2 rfl).1
theorem valTo_snoc {log : List Ev} (h : logTo log log.length = true) {d : Int} {ms : List (List UInt8)} (h1 : lastDay log log.length ≤ d) (h2 : d ≤ 1000000) (h3 : namesB ms 8 = true) : logTo (log ++ [(d, ms)]) (log ++ [(d, ms)]).length = true := logTo_of fun i hi => by
  rw [evAt_eq]
  by_cases hlt : i < log.length
  · rw [lastDay_app log _ (Nat.le_of_lt hlt), ((at_snoc log (d, ms) i).1 hlt).1, ((at_snoc log (d, ms) i).1 hlt).2, ← evAt_eq]
    exact evAt_of h hlt
  · have e : i = log.length := by simp at hi; omega
    rw [lastDay_app log _ (by omega), ((at_snoc log (d, ms) i).2 e).1, ((at_snoc log (d, ms) i).2 e).2, e]
    rw [decide_eq_true h1, decide_eq_true h2, h3]; rfl
theorem evB_at (d day : Int) (ms : List (List UInt8)) (h : 0 ≤ day) : evB (d, ms) day = (decide (day ≤ d) && decide (d ≤ 1000000) && namesB ms 8) := by
  unfold evB
  rw [show max day 0 = day by omega]
theorem rwatch_to {S : Nat → Prop} {w : World} {v u : Value} {t : Tm} {log : List Ev} (h : TmV S w v t) (hs : t.fo.shp = true) (hl : EvV w u log) (hb : logTo log log.length = true) (hn : log.length ≤ 1000) : Calls Tryz.prog 24 #[v, u] w (RetBoolO (t.watch log) w) :=
  rwatch_all _ t S v u log w (Nat.lt_succ_self _) h hs hl (daysOk_to hb) (rising_to hb) hn
end Go.Proofs.YtobpacebpiabcaaGreatDoor
