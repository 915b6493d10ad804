/- gear's better (printed by genvj.py). -/
import Derived.Test.YtklngjjokbhfpaaGreatDoorPkVh
import Derived.Test.YtklngjjokbhfpaaGreatDoorPkN
namespace Go.Proofs.YtklngjjokbhfpaaGreatDoor
open Go.RowKit

/-- Which of two trains is better: below 0 if the first one is. -/
def betterM (ws ps us vs : List Int) : Int := orL [sgn ((ws.length : Int) - us.length), sgn (sumL (ws ++ ps) - sumL (us ++ vs)), cmpL ws us, cmpL ps vs]

set_option maxRecDepth 100000 in
set_option maxHeartbeats 3200000 in
theorem better_any (a1 a2 a3 a4 : Addr) (n1 c1 n2 c2 n3 c3 n4 c4 : Nat) (ws ps us vs : List Int) (w : World)
    (h1 : Ints .i64 w (some a1) ws) (h2 : Ints .i64 w (some a2) ps) (h3 : Ints .i64 w (some a3) us) (h4 : Ints .i64 w (some a4) vs)
    (l1 : ws.length = n1) (l2 : ps.length = n2) (l3 : us.length = n3) (l4 : vs.length = n4) (m1 : n1 ≤ 400) (m2 : n2 ≤ 400) (m3 : n3 ≤ 400) (m4 : n4 ≤ 400)
    (b1 : ∀ x ∈ ws ++ ps, 1 ≤ x ∧ x ≤ 200) (b2 : ∀ x ∈ us ++ vs, 1 ≤ x ∧ x ≤ 200) :
    Calls Tryz.prog 44 #[.agg #[.slice (some a1) n1 c1, .slice (some a2) n2 c2], .agg #[.slice (some a3) n3 c3, .slice (some a4) n4 c4]] w (RetV (.int .i64 (betterM ws ps us vs)) w) := by
  obtain ⟨W3, hW3⟩ : ∃ W3, W3 = (w.alloc (.cells #[.slice (some a1) n1 c1, .slice (some a2) n2 c2] 48)).alloc (.cells #[.slice (some a3) n3 c3, .slice (some a4) n4 c4] 48) := ⟨_, rfl⟩
  have hbW : Below w.heap.size w W3 := by rw [hW3]; exact ((Below.refl _ _).alloc (Nat.le_refl _) _).alloc (by simp) _
  have hs3 : W3.heap.size = w.heap.size + 1 + 1 := by rw [hW3]; simp
  have k0 : W3.cell? ⟨w.heap.size, 0, none⟩ = some (.slice (some a1) n1 c1) := by rw [hW3]; simp [go_sem]
  have k1 : W3.cell? ⟨w.heap.size, 1, none⟩ = some (.slice (some a2) n2 c2) := by rw [hW3]; simp [go_sem]
  have k2 : W3.cell? ⟨w.heap.size + 1, 0, none⟩ = some (.slice (some a3) n3 c3) := by rw [hW3]; simp [go_sem]
  have k3 : W3.cell? ⟨w.heap.size + 1, 1, none⟩ = some (.slice (some a4) n4 c4) := by rw [hW3]; simp [go_sem]
  have HBW := Lib.hid hbW
  clear hbW
  have hr : betterM ws ps us vs = orL [sgn ((n1 : Int) - n3), sgn (sumL (ws ++ ps) - sumL (us ++ vs)), cmpL ws us, cmpL ps vs] := by rw [← l1, ← l3]; rfl
  have cc1 : ∀ W, Calls Tryz.prog 64 #[.int .i64 n1, .int .i64 n3] W fun e w' => e = .returned (.int .i64 (sgn ((n1 : Int) - n3))) ∧ W = w' := fun W => (compare_any n1 n3 W).mono fun e w' h => ⟨h.1, h.2.symm⟩
  have ss1 : ∀ W, Below w.heap.size w W → Calls Tryz.prog 65 #[.agg #[.slice (some a1) n1 c1, .slice (some a2) n2 c2]] W (RetW (.int .i64 (sumL (ws ++ ps))) W) := fun W hb => (sum_any a1 a2 n1 c1 n2 c2 ws ps W (h1.below hb) (h2.below hb) l1 l2 m1 m2 b1).mono fun e w' h => RetW.of h
  have ss2 : ∀ W, Below w.heap.size w W → Calls Tryz.prog 65 #[.agg #[.slice (some a3) n3 c3, .slice (some a4) n4 c4]] W (RetW (.int .i64 (sumL (us ++ vs))) W) := fun W hb => (sum_any a3 a4 n3 c3 n4 c4 us vs W (h3.below hb) (h4.below hb) l3 l4 m3 m4 b2).mono fun e w' h => RetW.of h
  have mm1 : ∀ W, Below w.heap.size w W → Calls Tryz.prog 66 #[.slice (some a1) n1 c1, .slice (some a3) n3 c3] W fun e w' => e = .returned (.int .i64 (cmpL ws us)) ∧ W = w' := fun W hb => (scompare_any _ _ n1 c1 n3 c3 ws us W (h1.below hb) (h3.below hb) l1 l3 (by omega) (by omega)).mono fun e w' h => ⟨h.1, h.2.symm⟩
  have mm2 : ∀ W, Below w.heap.size w W → Calls Tryz.prog 66 #[.slice (some a2) n2 c2, .slice (some a4) n4 c4] W fun e w' => e = .returned (.int .i64 (cmpL ps vs)) ∧ W = w' := fun W hb => (scompare_any _ _ n2 c2 n4 c4 ps vs W (h2.below hb) (h4.below hb) l2 l4 (by omega) (by omega)).mono fun e w' h => ⟨h.1, h.2.symm⟩
  clear h1 h2 h3 h4 l1 l2 l3 l4 b1 b2 m1 m2 m3 m4
  generalize sgn ((n1 : Int) - n3) = z1 at *
  have cc2 : ∀ W, Calls Tryz.prog 64 #[.int .i64 (sumL (ws ++ ps)), .int .i64 (sumL (us ++ vs))] W fun e w' => e = .returned (.int .i64 (sgn (sumL (ws ++ ps) - sumL (us ++ vs)))) ∧ W = w' := fun W => (compare_any _ _ W).mono fun e w' h => ⟨h.1, h.2.symm⟩
  generalize sgn (sumL (ws ++ ps) - sumL (us ++ vs)) = z2 at *
  generalize sumL (ws ++ ps) = s1 at *
  generalize sumL (us ++ vs) = s2 at *
  generalize cmpL ws us = z3 at *
  generalize cmpL ps vs = z4 at *
  have HR := Lib.hid hr
  clear hr
  have hb0 := Below.refl (w.heap.size + 1 + 1) W3
  go_enter Tryz.func44, Tryz.ntmps44
  go_wp2_with fail
  rw [← hW3]
  clear hW3
  have j0 := (hb0.cell (p := ⟨w.heap.size, 0, none⟩) (by show w.heap.size < w.heap.size + 1 + 1; omega)).trans k0
  have j1 := (hb0.cell (p := ⟨w.heap.size, 1, none⟩) (by show w.heap.size < w.heap.size + 1 + 1; omega)).trans k1
  have j2 := (hb0.cell (p := ⟨w.heap.size + 1, 0, none⟩) (by show w.heap.size + 1 < w.heap.size + 1 + 1; omega)).trans k2
  have j3 := (hb0.cell (p := ⟨w.heap.size + 1, 1, none⟩) (by show w.heap.size + 1 < w.heap.size + 1 + 1; omega)).trans k3
  clear hb0
  refine Lex.wp_region_lex (fun w' => w'.cell? ⟨w.heap.size, 0, none⟩ = some (.slice (some a1) n1 c1) ∧ w'.cell? ⟨w.heap.size, 1, none⟩ = some (.slice (some a2) n2 c2) ∧ w'.cell? ⟨w.heap.size + 1, 0, none⟩ = some (.slice (some a3) n3 c3) ∧ w'.cell? ⟨w.heap.size + 1, 1, none⟩ = some (.slice (some a4) n4 c4)) (fun j => j != 24)
    [(0, true), (1, true), (2, true), (3, true), (4, true), (5, true), (7, true), (9, true), (12, true), (13, true), (14, true), (15, true), (17, true), (18, true), (19, true), (20, true), (6, false), (8, false), (10, false), (11, false), (16, false), (21, false), (22, false), (23, false), (24, false)]
    (by kernel_rfl) (by kernel_rfl) (by kernel_rfl) (by kernel_rfl) ⟨j0, j1, j2, j3⟩ ?_
  iterate 16 (refine Lex.lex_take (v := ?_) rfl rfl (by rfl) (fun _ hS => ?_) ?_; rotate_left 1; (focus (go_split_ands; go_simp; with_reducible rfl)); simp only [List.setIfInBounds_toArray, List.set_cons_zero, List.set_cons_succ])
  refine Lex.lex_do rfl ?_
  have hb0 : Below (w.heap.size + 1 + 1) W3 W3.drew := (Below.refl _ W3).drew
  generalize W3.drew = V0 at *
  clear j0 j1 j2 j3
  go_wp2_with fail
  refine (cc1 V0).mono ?_
  rintro e V1 ⟨rfl, rfl⟩
  have j0 := (hb0.cell (p := ⟨w.heap.size, 0, none⟩) (by show w.heap.size < w.heap.size + 1 + 1; omega)).trans k0
  have j1 := (hb0.cell (p := ⟨w.heap.size, 1, none⟩) (by show w.heap.size < w.heap.size + 1 + 1; omega)).trans k1
  have j2 := (hb0.cell (p := ⟨w.heap.size + 1, 0, none⟩) (by show w.heap.size + 1 < w.heap.size + 1 + 1; omega)).trans k2
  have j3 := (hb0.cell (p := ⟨w.heap.size + 1, 1, none⟩) (by show w.heap.size + 1 < w.heap.size + 1 + 1; omega)).trans k3
  clear cc1
  go_wp2_with fail
  refine Lex.lexQ_normal (fun _ => ⟨j0, j1, j2, j3⟩) ?_
  clear j0 j1 j2 j3
  refine Lex.lex_do rfl ?_
  go_wp2_with fail
  refine (ss1 V0 (HBW.out.trans (hb0.mono (by omega)))).mono ?_
  rintro e V1 ⟨v1, rfl, hv1, hn1⟩
  have hb1 : Below (w.heap.size + 1 + 1) W3 V1 := hb0.trans (hn1.mono (by have := hb0.size; omega))
  subst hv1
  clear hn1 hb0
  have j0 := (hb1.cell (p := ⟨w.heap.size, 0, none⟩) (by show w.heap.size < w.heap.size + 1 + 1; omega)).trans k0
  have j1 := (hb1.cell (p := ⟨w.heap.size, 1, none⟩) (by show w.heap.size < w.heap.size + 1 + 1; omega)).trans k1
  have j2 := (hb1.cell (p := ⟨w.heap.size + 1, 0, none⟩) (by show w.heap.size + 1 < w.heap.size + 1 + 1; omega)).trans k2
  have j3 := (hb1.cell (p := ⟨w.heap.size + 1, 1, none⟩) (by show w.heap.size + 1 < w.heap.size + 1 + 1; omega)).trans k3
  clear ss1
  go_wp2_with fail
  refine Lex.lexQ_normal (fun _ => ⟨j0, j1, j2, j3⟩) ?_
  clear j0 j1 j2 j3
  refine Lex.lex_do rfl ?_
  go_wp2_with fail
  refine (ss2 V1 (HBW.out.trans (hb1.mono (by omega)))).mono ?_
  rintro e V2 ⟨v2, rfl, hv2, hn2⟩
  have hb2 : Below (w.heap.size + 1 + 1) W3 V2 := hb1.trans (hn2.mono (by have := hb1.size; omega))
  subst hv2
  clear hn2 hb1
  have j0 := (hb2.cell (p := ⟨w.heap.size, 0, none⟩) (by show w.heap.size < w.heap.size + 1 + 1; omega)).trans k0
  have j1 := (hb2.cell (p := ⟨w.heap.size, 1, none⟩) (by show w.heap.size < w.heap.size + 1 + 1; omega)).trans k1
  have j2 := (hb2.cell (p := ⟨w.heap.size + 1, 0, none⟩) (by show w.heap.size + 1 < w.heap.size + 1 + 1; omega)).trans k2
  have j3 := (hb2.cell (p := ⟨w.heap.size + 1, 1, none⟩) (by show w.heap.size + 1 < w.heap.size + 1 + 1; omega)).trans k3
  clear ss2
  go_wp2_with fail
  refine Lex.lexQ_normal (fun _ => ⟨j0, j1, j2, j3⟩) ?_
  clear j0 j1 j2 j3
  refine Lex.lex_do rfl ?_
  go_wp2_with fail
  refine (cc2 V2).mono ?_
  rintro e V3 ⟨rfl, rfl⟩
  have j0 := (hb2.cell (p := ⟨w.heap.size, 0, none⟩) (by show w.heap.size < w.heap.size + 1 + 1; omega)).trans k0
  have j1 := (hb2.cell (p := ⟨w.heap.size, 1, none⟩) (by show w.heap.size < w.heap.size + 1 + 1; omega)).trans k1
  have j2 := (hb2.cell (p := ⟨w.heap.size + 1, 0, none⟩) (by show w.heap.size + 1 < w.heap.size + 1 + 1; omega)).trans k2
  have j3 := (hb2.cell (p := ⟨w.heap.size + 1, 1, none⟩) (by show w.heap.size + 1 < w.heap.size + 1 + 1; omega)).trans k3
  clear cc2
  go_wp2_with fail
  refine Lex.lexQ_normal (fun _ => ⟨j0, j1, j2, j3⟩) ?_
  clear j0 j1 j2 j3
  refine Lex.lex_do rfl ?_
  go_wp2_with fail
  refine (mm1 V2 (HBW.out.trans (hb2.mono (by omega)))).mono ?_
  rintro e V3 ⟨rfl, rfl⟩
  have j0 := (hb2.cell (p := ⟨w.heap.size, 0, none⟩) (by show w.heap.size < w.heap.size + 1 + 1; omega)).trans k0
  have j1 := (hb2.cell (p := ⟨w.heap.size, 1, none⟩) (by show w.heap.size < w.heap.size + 1 + 1; omega)).trans k1
  have j2 := (hb2.cell (p := ⟨w.heap.size + 1, 0, none⟩) (by show w.heap.size + 1 < w.heap.size + 1 + 1; omega)).trans k2
  have j3 := (hb2.cell (p := ⟨w.heap.size + 1, 1, none⟩) (by show w.heap.size + 1 < w.heap.size + 1 + 1; omega)).trans k3
  clear mm1
  go_wp2_with fail
  refine Lex.lexQ_normal (fun _ => ⟨j0, j1, j2, j3⟩) ?_
  clear j0 j1 j2 j3
  refine Lex.lex_do rfl ?_
  go_wp2_with fail
  refine (mm2 V2 (HBW.out.trans (hb2.mono (by omega)))).mono ?_
  rintro e V3 ⟨rfl, rfl⟩
  have j0 := (hb2.cell (p := ⟨w.heap.size, 0, none⟩) (by show w.heap.size < w.heap.size + 1 + 1; omega)).trans k0
  have j1 := (hb2.cell (p := ⟨w.heap.size, 1, none⟩) (by show w.heap.size < w.heap.size + 1 + 1; omega)).trans k1
  have j2 := (hb2.cell (p := ⟨w.heap.size + 1, 0, none⟩) (by show w.heap.size + 1 < w.heap.size + 1 + 1; omega)).trans k2
  have j3 := (hb2.cell (p := ⟨w.heap.size + 1, 1, none⟩) (by show w.heap.size + 1 < w.heap.size + 1 + 1; omega)).trans k3
  clear mm2
  go_wp2_with fail
  refine Lex.lexQ_normal (fun _ => ⟨j0, j1, j2, j3⟩) ?_
  clear j0 j1 j2 j3
  refine Lex.lex_do rfl ?_
  have hbA : Below (w.heap.size + 1 + 1) W3 (V2.alloc (.cells #[.int .i64 z1, .int .i64 z2, .int .i64 z3, .int .i64 z4] 3)) := hb2.alloc (by have := hb2.size; omega) _
  have j0 := (hbA.cell (p := ⟨w.heap.size, 0, none⟩) (by show w.heap.size < w.heap.size + 1 + 1; omega)).trans k0
  have j1 := (hbA.cell (p := ⟨w.heap.size, 1, none⟩) (by show w.heap.size < w.heap.size + 1 + 1; omega)).trans k1
  have j2 := (hbA.cell (p := ⟨w.heap.size + 1, 0, none⟩) (by show w.heap.size + 1 < w.heap.size + 1 + 1; omega)).trans k2
  have j3 := (hbA.cell (p := ⟨w.heap.size + 1, 1, none⟩) (by show w.heap.size + 1 < w.heap.size + 1 + 1; omega)).trans k3
  go_wp2_with fail
  refine Lex.lexQ_normal (fun _ => ⟨j0, j1, j2, j3⟩) ?_
  clear j0 j1 j2 j3
  refine Lex.lex_do rfl ?_
  go_wp2_with fail
  refine (or_any _ 4 4 [z1, z2, z3, z4] _ (.inr ⟨_, 0, rfl, by simp, fun j v hj => ?_⟩) rfl (by omega)).mono ?_
  · match j, hj with
    | 0, hj => simp at hj; subst hj; simp [go_sem]
    | 1, hj => simp at hj; subst hj; simp [go_sem]
    | 2, hj => simp at hj; subst hj; simp [go_sem]
    | 3, hj => simp at hj; subst hj; simp [go_sem]
    | j + 4, hj => simp at hj
  rintro e V9 ⟨rfl, rfl⟩
  have j0 := (hbA.cell (p := ⟨w.heap.size, 0, none⟩) (by show w.heap.size < w.heap.size + 1 + 1; omega)).trans k0
  have j1 := (hbA.cell (p := ⟨w.heap.size, 1, none⟩) (by show w.heap.size < w.heap.size + 1 + 1; omega)).trans k1
  have j2 := (hbA.cell (p := ⟨w.heap.size + 1, 0, none⟩) (by show w.heap.size + 1 < w.heap.size + 1 + 1; omega)).trans k2
  have j3 := (hbA.cell (p := ⟨w.heap.size + 1, 1, none⟩) (by show w.heap.size + 1 < w.heap.size + 1 + 1; omega)).trans k3
  go_wp2_with fail
  refine Lex.lexQ_normal (fun _ => ⟨j0, j1, j2, j3⟩) ?_
  clear j0 j1 j2 j3
  refine Lex.lex_do rfl ?_
  go_wp2_with fail
  refine Lex.lexQ_normal (fun h => absurd h (by decide)) ?_
  refine Lex.lex_nil ?_
  go_wp2
  go_ret
  exact ⟨ret_int HR.out.symm, HBW.out.trans (hbA.mono (by omega))⟩


end Go.Proofs.YtklngjjokbhfpaaGreatDoor
