/- Texts O P Q in one. -/
import Derived.Test.YtbkgbkmpalbdpaaGreatDoorM
import Derived.Test.YtbkgbkmpalbdpaaGreatDoorPkK
namespace Go.Proofs.YtbkgbkmpalbdpaaGreatDoor.G
open Go.RowKit

theorem IsQ.open' {w : World} {v : Value} {p q : Int} {N : Nat} (h : IsQ w v p q N) : ∃ (na : Bool) (A : Option Addr) (n c : Nat) (nb : Bool) (B : Option Addr) (m d : Nat), v = .agg #[.bool na, .slice A n c, .bool nb, .slice B m d] ∧ IsZ w (.agg #[.bool na, .slice A n c]) p N ∧ IsZ w (.agg #[.bool nb, .slice B m d]) q N := by
  obtain ⟨na, a, nb, b, rfl, h1, h2⟩ := h
  obtain ⟨na', A, n, c, _, h3, -⟩ := h1.open'
  obtain ⟨nb', B, m, d, _, h4, -⟩ := h2.open'
  simp at h3 h4
  obtain ⟨rfl, rfl⟩ := h3
  obtain ⟨rfl, rfl⟩ := h4
  exact ⟨na, A, n, c, nb, B, m, d, rfl, h1, h2⟩
/-- A run that answers a value and leaves what was there; the value with a letter. -/
def RetW (x : Value) (w : World) (e : Ending) (w' : World) : Prop := ∃ v, e = .returned v ∧ v = x ∧ Below w.heap.size w w'
theorem RetW.of {x : Value} {w w' : World} {e : Ending} (h : RetV x w e w') : RetW x w e w' := ⟨x, h.1, rfl, h.2⟩


set_option maxRecDepth 100000 in
set_option maxHeartbeats 1600000 in
theorem rcmp_any {w : World} {u v : Value} {p q p1 q1 : Int} {N M : Nat} (hu : IsQ w u p q N) (hv : IsQ w v p1 q1 M) (hN : N ≤ 200) (hM : M ≤ 200) :
    Calls Tryz.prog 307 #[u, v] w (RetV (.int .i64 (sgn (p * q1 - p1 * q))) w) := by
  obtain ⟨na, A, n, c, nb, B, m, d, rfl, hp, hq⟩ := hu.open'
  obtain ⟨na1, A1, n1, c1, nb1, B1, m1, d1, rfl, hp1, hq1⟩ := hv.open'
  have ca : ∀ W, Below w.heap.size w W → Calls Tryz.prog 332 #[.agg #[.bool na, .slice A n c], .agg #[.bool nb1, .slice B1 m1 d1]] W (RetZ (p * q1) (N + M) W) := fun W hb => mul_any (hp.below hb) (hq1.below hb) (by omega) (by omega)
  have cb : ∀ W, Below w.heap.size w W → Calls Tryz.prog 332 #[.agg #[.bool na1, .slice A1 n1 c1], .agg #[.bool nb, .slice B m d]] W (RetZ (p1 * q) (M + N) W) := fun W hb => mul_any (hp1.below hb) (hq.below hb) (by omega) (by omega)
  have cc : ∀ W v1 v2, IsZ W v1 (p * q1) (N + M) → IsZ W v2 (p1 * q) (M + N) → Calls Tryz.prog 394 #[v1, v2] W (RetW (.int .i64 (sgn (p * q1 - p1 * q))) W) := fun W v1 v2 h1 h2 => (zcmp_any h1 h2 (by omega) (by omega)).mono fun e w' h => RetW.of h
  clear hu hv hp hq hp1 hq1
  have hB : Below w.heap.size w ((w.alloc (.cells #[.bool na, .slice A n c, .bool nb, .slice B m d] 350)).alloc (.cells #[.bool na1, .slice A1 n1 c1, .bool nb1, .slice B1 m1 d1] 350)) := ((Below.refl _ _).alloc (Nat.le_refl _) _).alloc (by simp) _
  obtain ⟨W3, hW3⟩ : ∃ W3, W3 = (w.alloc (.cells #[.bool na, .slice A n c, .bool nb, .slice B m d] 350)).alloc (.cells #[.bool na1, .slice A1 n1 c1, .bool nb1, .slice B1 m1 d1] 350) := ⟨_, rfl⟩
  have hs3 : W3.heap.size = w.heap.size + 1 + 1 := by rw [hW3]; simp
  rw [← hW3] at hB
  have HB3 := Lib.hid hB
  clear hB
  go_enter Tryz.func307, Tryz.ntmps307
  go_wp2_with fail
  rw [← hW3]
  have HW := Lib.hid hW3
  clear hW3
  have hbW := Below.refl (w.heap.size + 1 + 1) W3
  have k0 : W3.cell? ⟨w.heap.size, 0, none⟩ = some (.bool na) := by rw [HW.out]; simp [go_sem]
  have j0 := (hbW.cell (p := ⟨w.heap.size, 0, none⟩) (by show w.heap.size < w.heap.size + 1 + 1; omega)).trans k0
  have k1 : W3.cell? ⟨w.heap.size, 1, none⟩ = some (.slice A n c) := by rw [HW.out]; simp [go_sem]
  have j1 := (hbW.cell (p := ⟨w.heap.size, 1, none⟩) (by show w.heap.size < w.heap.size + 1 + 1; omega)).trans k1
  have k2 : W3.cell? ⟨w.heap.size, 2, none⟩ = some (.bool nb) := by rw [HW.out]; simp [go_sem]
  have j2 := (hbW.cell (p := ⟨w.heap.size, 2, none⟩) (by show w.heap.size < w.heap.size + 1 + 1; omega)).trans k2
  have k3 : W3.cell? ⟨w.heap.size, 3, none⟩ = some (.slice B m d) := by rw [HW.out]; simp [go_sem]
  have j3 := (hbW.cell (p := ⟨w.heap.size, 3, none⟩) (by show w.heap.size < w.heap.size + 1 + 1; omega)).trans k3
  have k4 : W3.cell? ⟨w.heap.size + 1, 0, none⟩ = some (.bool na1) := by rw [HW.out]; simp [go_sem]
  have j4 := (hbW.cell (p := ⟨w.heap.size + 1, 0, none⟩) (by show w.heap.size + 1 < w.heap.size + 1 + 1; omega)).trans k4
  have k5 : W3.cell? ⟨w.heap.size + 1, 1, none⟩ = some (.slice A1 n1 c1) := by rw [HW.out]; simp [go_sem]
  have j5 := (hbW.cell (p := ⟨w.heap.size + 1, 1, none⟩) (by show w.heap.size + 1 < w.heap.size + 1 + 1; omega)).trans k5
  have k6 : W3.cell? ⟨w.heap.size + 1, 2, none⟩ = some (.bool nb1) := by rw [HW.out]; simp [go_sem]
  have j6 := (hbW.cell (p := ⟨w.heap.size + 1, 2, none⟩) (by show w.heap.size + 1 < w.heap.size + 1 + 1; omega)).trans k6
  have k7 : W3.cell? ⟨w.heap.size + 1, 3, none⟩ = some (.slice B1 m1 d1) := by rw [HW.out]; simp [go_sem]
  have j7 := (hbW.cell (p := ⟨w.heap.size + 1, 3, none⟩) (by show w.heap.size + 1 < w.heap.size + 1 + 1; omega)).trans k7
  refine Lex.wp_region_lex (fun w' => w'.cell? ⟨w.heap.size, 0, none⟩ = some (.bool na) ∧ w'.cell? ⟨w.heap.size, 1, none⟩ = some (.slice A n c) ∧ w'.cell? ⟨w.heap.size, 2, none⟩ = some (.bool nb) ∧ w'.cell? ⟨w.heap.size, 3, none⟩ = some (.slice B m d) ∧ w'.cell? ⟨w.heap.size + 1, 0, none⟩ = some (.bool na1) ∧ w'.cell? ⟨w.heap.size + 1, 1, none⟩ = some (.slice A1 n1 c1) ∧ w'.cell? ⟨w.heap.size + 1, 2, none⟩ = some (.bool nb1) ∧ w'.cell? ⟨w.heap.size + 1, 3, none⟩ = some (.slice B1 m1 d1)) (fun j => j != 11)
    [(0, true), (1, true), (2, true), (3, true), (5, true), (6, true), (7, true), (8, true), (4, false), (9, false), (10, false), (11, false)]
    (by kernel_rfl) (by kernel_rfl) (by kernel_rfl) (by kernel_rfl) ⟨j0, j1, j2, j3, j4, j5, j6, j7⟩ ?_
  iterate 8 (refine Lex.lex_take (v := ?_) rfl rfl (by rfl) (fun _ hS => ?_) ?_; rotate_left 1; (focus (go_split_ands; go_simp; with_reducible rfl)); simp only [List.setIfInBounds_toArray, List.set_cons_zero, List.set_cons_succ])
  refine Lex.lex_do rfl ?_
  have hb0 : Below (w.heap.size + 1 + 1) W3 W3.drew := hbW.drew
  generalize W3.drew = V0 at *
  clear hbW j0 j1 j2 j3 j4 j5 j6 j7
  replace ca := ca _ (HB3.out.trans (hb0.mono (by omega)))
  go_wp2_with fail
  refine (ca).mono ?_
  rintro e V1 ⟨v1, rfl, hm1, hn1⟩
  have hb1 : Below (w.heap.size + 1 + 1) W3 V1 := hb0.trans (hn1.mono (by have := hb0.size; omega))
  have hn1 := Lib.hid hn1
  go_wp2_with fail
  have j0 := (hb1.cell (p := ⟨w.heap.size, 0, none⟩) (by show w.heap.size < w.heap.size + 1 + 1; omega)).trans k0
  have j1 := (hb1.cell (p := ⟨w.heap.size, 1, none⟩) (by show w.heap.size < w.heap.size + 1 + 1; omega)).trans k1
  have j2 := (hb1.cell (p := ⟨w.heap.size, 2, none⟩) (by show w.heap.size < w.heap.size + 1 + 1; omega)).trans k2
  have j3 := (hb1.cell (p := ⟨w.heap.size, 3, none⟩) (by show w.heap.size < w.heap.size + 1 + 1; omega)).trans k3
  have j4 := (hb1.cell (p := ⟨w.heap.size + 1, 0, none⟩) (by show w.heap.size + 1 < w.heap.size + 1 + 1; omega)).trans k4
  have j5 := (hb1.cell (p := ⟨w.heap.size + 1, 1, none⟩) (by show w.heap.size + 1 < w.heap.size + 1 + 1; omega)).trans k5
  have j6 := (hb1.cell (p := ⟨w.heap.size + 1, 2, none⟩) (by show w.heap.size + 1 < w.heap.size + 1 + 1; omega)).trans k6
  have j7 := (hb1.cell (p := ⟨w.heap.size + 1, 3, none⟩) (by show w.heap.size + 1 < w.heap.size + 1 + 1; omega)).trans k7
  refine Lex.lexQ_normal (fun _ => ⟨j0, j1, j2, j3, j4, j5, j6, j7⟩) ?_
  refine Lex.lex_do rfl ?_
  clear j0 j1 j2 j3 j4 j5 j6 j7
  clear ca
  replace cb := cb _ (HB3.out.trans (hb1.mono (by omega)))
  go_wp2_with fail
  refine (cb).mono ?_
  rintro e V2 ⟨v2, rfl, hm2, hn2⟩
  have hb2 : Below (w.heap.size + 1 + 1) W3 V2 := hb1.trans (hn2.mono (by have := hb1.size; omega))
  have hn2 := Lib.hid hn2
  go_wp2_with fail
  have j0 := (hb2.cell (p := ⟨w.heap.size, 0, none⟩) (by show w.heap.size < w.heap.size + 1 + 1; omega)).trans k0
  have j1 := (hb2.cell (p := ⟨w.heap.size, 1, none⟩) (by show w.heap.size < w.heap.size + 1 + 1; omega)).trans k1
  have j2 := (hb2.cell (p := ⟨w.heap.size, 2, none⟩) (by show w.heap.size < w.heap.size + 1 + 1; omega)).trans k2
  have j3 := (hb2.cell (p := ⟨w.heap.size, 3, none⟩) (by show w.heap.size < w.heap.size + 1 + 1; omega)).trans k3
  have j4 := (hb2.cell (p := ⟨w.heap.size + 1, 0, none⟩) (by show w.heap.size + 1 < w.heap.size + 1 + 1; omega)).trans k4
  have j5 := (hb2.cell (p := ⟨w.heap.size + 1, 1, none⟩) (by show w.heap.size + 1 < w.heap.size + 1 + 1; omega)).trans k5
  have j6 := (hb2.cell (p := ⟨w.heap.size + 1, 2, none⟩) (by show w.heap.size + 1 < w.heap.size + 1 + 1; omega)).trans k6
  have j7 := (hb2.cell (p := ⟨w.heap.size + 1, 3, none⟩) (by show w.heap.size + 1 < w.heap.size + 1 + 1; omega)).trans k7
  refine Lex.lexQ_normal (fun _ => ⟨j0, j1, j2, j3, j4, j5, j6, j7⟩) ?_
  refine Lex.lex_do rfl ?_
  clear j0 j1 j2 j3 j4 j5 j6 j7
  clear cb
  replace cc := cc _ _ _ (hm1.below hn2.out) hm2
  go_wp2_with fail
  refine (cc).mono ?_
  rintro e V3 ⟨v3, rfl, hm3, hn3⟩
  have hb3 : Below (w.heap.size + 1 + 1) W3 V3 := hb2.trans (hn3.mono (by have := hb2.size; omega))
  have hn3 := Lib.hid hn3
  go_wp2_with fail
  have j0 := (hb3.cell (p := ⟨w.heap.size, 0, none⟩) (by show w.heap.size < w.heap.size + 1 + 1; omega)).trans k0
  have j1 := (hb3.cell (p := ⟨w.heap.size, 1, none⟩) (by show w.heap.size < w.heap.size + 1 + 1; omega)).trans k1
  have j2 := (hb3.cell (p := ⟨w.heap.size, 2, none⟩) (by show w.heap.size < w.heap.size + 1 + 1; omega)).trans k2
  have j3 := (hb3.cell (p := ⟨w.heap.size, 3, none⟩) (by show w.heap.size < w.heap.size + 1 + 1; omega)).trans k3
  have j4 := (hb3.cell (p := ⟨w.heap.size + 1, 0, none⟩) (by show w.heap.size + 1 < w.heap.size + 1 + 1; omega)).trans k4
  have j5 := (hb3.cell (p := ⟨w.heap.size + 1, 1, none⟩) (by show w.heap.size + 1 < w.heap.size + 1 + 1; omega)).trans k5
  have j6 := (hb3.cell (p := ⟨w.heap.size + 1, 2, none⟩) (by show w.heap.size + 1 < w.heap.size + 1 + 1; omega)).trans k6
  have j7 := (hb3.cell (p := ⟨w.heap.size + 1, 3, none⟩) (by show w.heap.size + 1 < w.heap.size + 1 + 1; omega)).trans k7
  refine Lex.lexQ_normal (fun _ => ⟨j0, j1, j2, j3, j4, j5, j6, j7⟩) ?_
  refine Lex.lex_do rfl ?_
  clear j0 j1 j2 j3 j4 j5 j6 j7
  subst hm3
  have HB := Lib.hid (HB3.out.trans (hb3.mono (by omega)))
  clear cc hm1 hm2 hb2 hb1
  go_wp2_with fail
  refine Lex.lexQ_normal (fun h => absurd h (by decide)) ?_
  refine Lex.lex_nil ?_
  go_wp2
  go_ret
  exact ⟨rfl, HB.out⟩

set_option maxRecDepth 100000 in
set_option maxHeartbeats 1600000 in
theorem order_any (p q p1 q1 : Int) (w : World) (hp : I64 p) (hq : I64 q) (hp1 : I64 p1) (hq1 : I64 q1) :
    Calls Tryz.prog 195 #[.agg #[.int .i64 p, .int .i64 q], .agg #[.int .i64 p1, .int .i64 q1]] w (RetV (.int .i64 (sgn (p * q1 - p1 * q))) w) := by
  have ca := fun W => from_any p q W hp hq
  have cb := fun W => from_any p1 q1 W hp1 hq1
  have cc : ∀ W v1 v2, IsQ W v1 p q 2 → IsQ W v2 p1 q1 2 → Calls Tryz.prog 307 #[v1, v2] W (RetW (.int .i64 (sgn (p * q1 - p1 * q))) W) := fun W v1 v2 h1 h2 => (rcmp_any h1 h2 (by omega) (by omega)).mono fun e w' h => RetW.of h
  clear hp hq hp1 hq1
  have hB : Below w.heap.size w ((w.alloc (.cells #[.int .i64 p, .int .i64 q] 187)).alloc (.cells #[.int .i64 p1, .int .i64 q1] 187)) := ((Below.refl _ _).alloc (Nat.le_refl _) _).alloc (by simp) _
  obtain ⟨W3, hW3⟩ : ∃ W3, W3 = (w.alloc (.cells #[.int .i64 p, .int .i64 q] 187)).alloc (.cells #[.int .i64 p1, .int .i64 q1] 187) := ⟨_, rfl⟩
  have hs3 : W3.heap.size = w.heap.size + 1 + 1 := by rw [hW3]; simp
  rw [← hW3] at hB
  have HB3 := Lib.hid hB
  clear hB
  go_enter Tryz.func195, Tryz.ntmps195
  go_wp2_with fail
  rw [← hW3]
  have HW := Lib.hid hW3
  clear hW3
  have hbW := Below.refl (w.heap.size + 1 + 1) W3
  have k0 : W3.cell? ⟨w.heap.size, 0, none⟩ = some (.int .i64 p) := by rw [HW.out]; simp [go_sem]
  have j0 := (hbW.cell (p := ⟨w.heap.size, 0, none⟩) (by show w.heap.size < w.heap.size + 1 + 1; omega)).trans k0
  have k1 : W3.cell? ⟨w.heap.size, 1, none⟩ = some (.int .i64 q) := by rw [HW.out]; simp [go_sem]
  have j1 := (hbW.cell (p := ⟨w.heap.size, 1, none⟩) (by show w.heap.size < w.heap.size + 1 + 1; omega)).trans k1
  have k2 : W3.cell? ⟨w.heap.size + 1, 0, none⟩ = some (.int .i64 p1) := by rw [HW.out]; simp [go_sem]
  have j2 := (hbW.cell (p := ⟨w.heap.size + 1, 0, none⟩) (by show w.heap.size + 1 < w.heap.size + 1 + 1; omega)).trans k2
  have k3 : W3.cell? ⟨w.heap.size + 1, 1, none⟩ = some (.int .i64 q1) := by rw [HW.out]; simp [go_sem]
  have j3 := (hbW.cell (p := ⟨w.heap.size + 1, 1, none⟩) (by show w.heap.size + 1 < w.heap.size + 1 + 1; omega)).trans k3
  refine Lex.wp_region_lex (fun w' => w'.cell? ⟨w.heap.size, 0, none⟩ = some (.int .i64 p) ∧ w'.cell? ⟨w.heap.size, 1, none⟩ = some (.int .i64 q) ∧ w'.cell? ⟨w.heap.size + 1, 0, none⟩ = some (.int .i64 p1) ∧ w'.cell? ⟨w.heap.size + 1, 1, none⟩ = some (.int .i64 q1)) (fun j => j != 5)
    [(0, true), (2, true), (1, false), (3, false), (4, false), (5, false)]
    (by kernel_rfl) (by kernel_rfl) (by kernel_rfl) (by kernel_rfl) ⟨j0, j1, j2, j3⟩ ?_
  iterate 2 (refine Lex.lex_take (v := ?_) rfl rfl (by rfl) (fun _ hS => ?_) ?_; rotate_left 1; (focus (go_split_ands; go_simp; with_reducible rfl)); simp only [List.setIfInBounds_toArray, List.set_cons_zero, List.set_cons_succ])
  refine Lex.lex_do rfl ?_
  have hb0 : Below (w.heap.size + 1 + 1) W3 W3.drew := hbW.drew
  generalize W3.drew = V0 at *
  clear hbW j0 j1 j2 j3
  go_wp2_with fail
  refine (ca _).mono ?_
  rintro e V1 ⟨v1, rfl, hm1, hn1⟩
  have hb1 : Below (w.heap.size + 1 + 1) W3 V1 := hb0.trans (hn1.mono (by have := hb0.size; omega))
  have hn1 := Lib.hid hn1
  go_wp2_with fail
  have j0 := (hb1.cell (p := ⟨w.heap.size, 0, none⟩) (by show w.heap.size < w.heap.size + 1 + 1; omega)).trans k0
  have j1 := (hb1.cell (p := ⟨w.heap.size, 1, none⟩) (by show w.heap.size < w.heap.size + 1 + 1; omega)).trans k1
  have j2 := (hb1.cell (p := ⟨w.heap.size + 1, 0, none⟩) (by show w.heap.size + 1 < w.heap.size + 1 + 1; omega)).trans k2
  have j3 := (hb1.cell (p := ⟨w.heap.size + 1, 1, none⟩) (by show w.heap.size + 1 < w.heap.size + 1 + 1; omega)).trans k3
  refine Lex.lexQ_normal (fun _ => ⟨j0, j1, j2, j3⟩) ?_
  refine Lex.lex_do rfl ?_
  clear j0 j1 j2 j3
  clear ca
  go_wp2_with fail
  refine (cb _).mono ?_
  rintro e V2 ⟨v2, rfl, hm2, hn2⟩
  have hb2 : Below (w.heap.size + 1 + 1) W3 V2 := hb1.trans (hn2.mono (by have := hb1.size; omega))
  have hn2 := Lib.hid hn2
  go_wp2_with fail
  have j0 := (hb2.cell (p := ⟨w.heap.size, 0, none⟩) (by show w.heap.size < w.heap.size + 1 + 1; omega)).trans k0
  have j1 := (hb2.cell (p := ⟨w.heap.size, 1, none⟩) (by show w.heap.size < w.heap.size + 1 + 1; omega)).trans k1
  have j2 := (hb2.cell (p := ⟨w.heap.size + 1, 0, none⟩) (by show w.heap.size + 1 < w.heap.size + 1 + 1; omega)).trans k2
  have j3 := (hb2.cell (p := ⟨w.heap.size + 1, 1, none⟩) (by show w.heap.size + 1 < w.heap.size + 1 + 1; omega)).trans k3
  refine Lex.lexQ_normal (fun _ => ⟨j0, j1, j2, j3⟩) ?_
  refine Lex.lex_do rfl ?_
  clear j0 j1 j2 j3
  clear cb
  replace cc := cc _ _ _ (hm1.below hn2.out) hm2
  go_wp2_with fail
  refine (cc).mono ?_
  rintro e V3 ⟨v3, rfl, hm3, hn3⟩
  have hb3 : Below (w.heap.size + 1 + 1) W3 V3 := hb2.trans (hn3.mono (by have := hb2.size; omega))
  have hn3 := Lib.hid hn3
  go_wp2_with fail
  have j0 := (hb3.cell (p := ⟨w.heap.size, 0, none⟩) (by show w.heap.size < w.heap.size + 1 + 1; omega)).trans k0
  have j1 := (hb3.cell (p := ⟨w.heap.size, 1, none⟩) (by show w.heap.size < w.heap.size + 1 + 1; omega)).trans k1
  have j2 := (hb3.cell (p := ⟨w.heap.size + 1, 0, none⟩) (by show w.heap.size + 1 < w.heap.size + 1 + 1; omega)).trans k2
  have j3 := (hb3.cell (p := ⟨w.heap.size + 1, 1, none⟩) (by show w.heap.size + 1 < w.heap.size + 1 + 1; omega)).trans k3
  refine Lex.lexQ_normal (fun _ => ⟨j0, j1, j2, j3⟩) ?_
  refine Lex.lex_do rfl ?_
  clear j0 j1 j2 j3
  subst hm3
  have HB := Lib.hid (HB3.out.trans (hb3.mono (by omega)))
  clear cc hm1 hm2 hb2 hb1
  go_wp2_with fail
  refine Lex.lexQ_normal (fun h => absurd h (by decide)) ?_
  refine Lex.lex_nil ?_
  go_wp2
  go_ret
  exact ⟨rfl, HB.out⟩

end Go.Proofs.YtbkgbkmpalbdpaaGreatDoor.G

namespace Go.Proofs.YtbkgbkmpalbdpaaGreatDoor.G
open Go.RowKit

/-- The quotient that Go takes, of a number below 0. -/
theorem floor_neg (p q : Int) (hp : p < 0) (hq : 1 ≤ q) : p ≤ p.tdiv q ∧ p.tdiv q ≤ 0 ∧ -q < p.tmod q ∧ p.tmod q ≤ 0 ∧ (p.tmod q < 0 → p.tdiv q - 1 = p / q) ∧ (¬ p.tmod q < 0 → p.tdiv q = p / q) := by
  obtain ⟨n, rfl⟩ : ∃ n : Int, p = -n := ⟨-p, by omega⟩
  rw [Int.neg_tdiv, Int.neg_tmod, Int.tdiv_eq_ediv_of_nonneg (by omega), Int.tmod_eq_emod_of_nonneg (by omega)]
  have h1 := Int.mul_ediv_add_emod n q
  have h2 := Int.emod_nonneg n (show q ≠ 0 by omega)
  have h3 := Int.emod_lt_of_pos n (show 0 < q by omega)
  have h4 : 0 ≤ n / q := Int.ediv_nonneg (by omega) (by omega)
  have h5 : n / q ≤ n := Int.ediv_le_self _ (by omega)
  refine ⟨by omega, by omega, by omega, by omega, fun h => ?_, fun h => ?_⟩
  · symm
    have e : (-n) / q = -(n / q) - 1 := by
      have hh : -n = (q - n % q) + q * (-(n / q) - 1) := by
        rw [Int.mul_sub, Int.mul_neg]; omega
      rw [hh, Int.add_mul_ediv_left _ _ (by omega), Int.ediv_eq_zero_of_lt (by omega) (by omega)]
      omega
    exact e
  · have hz : n % q = 0 := by omega
    have hh : -n = 0 + q * (-(n / q)) := by rw [Int.mul_neg]; omega
    rw [hh, Int.add_mul_ediv_left _ _ (by omega)]
    simp

set_option maxRecDepth 100000 in
set_option maxHeartbeats 800000 in
theorem floor_any (p q : Int) (w : World) (hp : I64 p) (hq : 1 ≤ q ∧ q ≤ 9223372036854775807) :
    Calls Tryz.prog 198 #[.agg #[.int .i64 p, .int .i64 q]] w (RetV (.int .i64 (p / q)) w) := by
  obtain ⟨hp1, hp2⟩ := hp
  obtain ⟨hq1, hq2⟩ := hq
  have hB : ∀ o, Below w.heap.size w (w.alloc o) := fun o => (Below.refl _ _).alloc (Nat.le_refl _) _
  have HB := Lib.hid hB
  have q0 : ¬ q = 0 := by omega
  clear hB
  by_cases hpn : p < 0
  · obtain ⟨f1, f2, f3, f4, f5, f6⟩ := floor_neg p q hpn hq1
    have F5 := Lib.hid f5
    have F6 := Lib.hid f6
    clear f5 f6
    have w1 : IntKind.i64.wrap (p.tdiv q) = p.tdiv q := IntWalk.i64_in _ (by omega)
    have w2 : IntKind.i64.wrap (p.tmod q) = p.tmod q := IntWalk.i64_in _ (by omega)
    by_cases hm : p.tmod q < 0
    · have hpq : p ≤ p / q := Int.le_ediv_of_mul_le (by omega) (by have := Int.mul_le_mul_of_nonpos_left (a := p) (show p ≤ 0 by omega) hq1; simpa using this)
      have hpq2 := F5.out hm
      have w3 : IntKind.i64.wrap (p.tdiv q - 1) = p.tdiv q - 1 := IntWalk.i64_in _ (by omega)
      clear hpq hpq2
      go_enter Tryz.func198, Tryz.ntmps198
      go_wp2
      go_ret
      exact ⟨by rw [F5.out hm]; rfl, HB.out _⟩
    · have hd : decide (p.tmod q < 0) = false := decide_eq_false hm
      go_enter Tryz.func198, Tryz.ntmps198
      go_wp2
      go_ret
      exact ⟨by rw [F6.out (by omega)]; rfl, HB.out _⟩
  · have hm : 0 ≤ p % q := Int.emod_nonneg _ q0
    go_enter Tryz.func198, Tryz.ntmps198
    go_wp2
    go_ret
    exact ⟨rfl, HB.out _⟩

set_option maxHeartbeats 400000 in
theorem turned_any (p q : Int) (w : World) (hp : -9223372036854775807 ≤ p ∧ p ≤ 9223372036854775807) :
    Calls Tryz.prog 196 #[.agg #[.int .i64 p, .int .i64 q]] w (RetV (.agg #[.int .i64 (-p), .int .i64 q]) w) := by
  obtain ⟨h1, h2⟩ := hp
  have hB : ∀ o o', Below w.heap.size w ((w.alloc o).alloc o') := fun o o' => ((Below.refl _ _).alloc (Nat.le_refl _) _).alloc (by simp) _
  have HB := Lib.hid hB
  clear hB
  go_enter Tryz.func196, Tryz.ntmps196
  go_wp2
  refine bodyPost_ret (v := .agg #[.int .i64 (-p), .int .i64 q]) (by simp [results, Tryz.results196, go_sem]) rfl ⟨rfl, HB.out _ _⟩
end Go.Proofs.YtbkgbkmpalbdpaaGreatDoor.G

namespace Go.Proofs.YtbkgbkmpalbdpaaGreatDoor.G
open Go.RowKit

/-- From address A on, the cells hold fractions. -/
def Facs (w : World) (A : Option Addr) (l : List (Int × Int)) : Prop :=
  l = [] ∨ ∃ b off, A = some ⟨b, off, none⟩ ∧ b < w.heap.size ∧ ∀ (k : Nat) (hk : k < l.length), w.cell? ⟨b, off + k * 2, none⟩ = some (.int .i64 l[k].1) ∧ w.cell? ⟨b, off + k * 2 + 1, none⟩ = some (.int .i64 l[k].2)
theorem Facs.below {w w' : World} {A : Option Addr} {l : List (Int × Int)} (h : Facs w A l) (hb : Below w.heap.size w w') : Facs w' A l := by
  rcases h with h | ⟨b, off, hA, hl, hc⟩
  · exact .inl h
  · exact .inr ⟨b, off, hA, by have := hb.size; omega, fun k hk => ⟨(hb.cell (p := ⟨b, off + k * 2, none⟩) hl).trans (hc k hk).1, (hb.cell (p := ⟨b, off + k * 2 + 1, none⟩) hl).trans (hc k hk).2⟩⟩
theorem Facs.get {w : World} {A : Option Addr} {l : List (Int × Int)} (h : Facs w A l) {k : Nat} (hk : k < l.length) : ∃ b off, A = some ⟨b, off, none⟩ ∧ b < w.heap.size ∧ w.cell? ⟨b, off + k * 2, none⟩ = some (.int .i64 l[k].1) ∧ w.cell? ⟨b, off + k * 2 + 1, none⟩ = some (.int .i64 l[k].2) := by
  rcases h with h | ⟨b, off, hA, hl, hc⟩
  · subst h; simp at hk
  · exact ⟨b, off, hA, hl, (hc k hk).1, (hc k hk).2⟩
/-- A valid fraction. -/
def FOk (x : Int × Int) : Prop := 1 ≤ x.2 ∧ x.2 ≤ 4611686018427387904 ∧ x.1.natAbs ≤ 4611686018427387904 ∧ Nat.gcd x.1.natAbs x.2.natAbs = 1
instance (x : Int × Int) : Decidable (FOk x) := by unfold FOk; infer_instance
def I64s (l : List (Int × Int)) : Prop := ∀ x ∈ l, I64 x.1 ∧ I64 x.2

set_option maxRecDepth 100000 in
set_option maxHeartbeats 1600000 in
theorem valid_any (A : Option Addr) (n c : Nat) (l : List (Int × Int)) (w : World) (hA : Facs w A l) (hn : l.length = n) (hb : n ≤ 1000000) (hl : I64s l) :
    Calls Tryz.prog 194 #[.slice A n c] w (RetV (.bool (decide (∀ x ∈ l, FOk x))) w) := by
  have HN := Lib.hid hn
  have HL := Lib.hid hl
  clear hn hl
  go_enter Tryz.func194, Tryz.ntmps194
  go_wp2
  go_loopw [7] (fun i wr => ∃ k : Nat, k ≤ n ∧ i = .int .i64 k ∧ (∀ j, ∀ h : j < l.length, j < k → FOk l[j]) ∧ Below w.heap.size w wr) (fun i _ => n - (intOf i).toNat)
  case atStart => exact ⟨0, Nat.zero_le _, rfl, fun j _ h => absurd h (Nat.not_lt_zero _), Below.refl _ _⟩
  case round =>
    obtain ⟨k, hk, rfl, hok, hbl⟩ := hrel
    have HOK := Lib.hid hok
    have HB := Lib.hid hbl
    clear hok hbl
    by_cases hlt : k < n
    · obtain ⟨b1, o1, rfl, hl1, hc1, hc2⟩ := (hA.below HB.out).get (k := k) (by rw [HN.out]; exact hlt)
      have hI := HL.out (l[k]'(by rw [HN.out]; exact hlt)) (List.getElem_mem _)
      generalize hx : l[k]'(by rw [HN.out]; exact hlt) = x at *
      obtain ⟨p, q⟩ := x
      obtain ⟨⟨p1, p2⟩, q1, q2⟩ := hI
      have HX := Lib.hid hx
      simp only at hc1 hc2 p1 p2 q1 q2
      clear hx
      have NO : ∀ x : Int × Int, x = (p, q) → l[k]'(by rw [HN.out]; exact hlt) = (p, q) → ¬ FOk x → decide (∀ x ∈ l, FOk x) = false := fun x e1 e2 h => decide_eq_false fun hall => h (by rw [e1, ← e2]; exact hall _ (List.getElem_mem _))
      have OKN : l[k]'(by rw [HN.out]; exact hlt) = (p, q) → FOk (p, q) → ∀ j, ∀ h : j < l.length, j < k + 1 → FOk l[j] := fun e1 h1 j hj hjk => by
        by_cases e : j = k
        · subst e; rw [e1]; exact h1
        · exact HOK.out j hj (by omega)
      have hbW : Below w.heap.size w (wr.alloc (.cells #[.int .i64 p, .int .i64 q] 187)) := HB.out.alloc HB.out.size _
      have k0 : (wr.alloc (.cells #[.int .i64 p, .int .i64 q] 187)).cell? ⟨wr.heap.size, 0, none⟩ = some (.int .i64 p) := by simp [go_sem]
      have k1 : (wr.alloc (.cells #[.int .i64 p, .int .i64 q] 187)).cell? ⟨wr.heap.size, 1, none⟩ = some (.int .i64 q) := by simp [go_sem]
      have HNO := Lib.hid NO
      have HOKN := Lib.hid OKN
      clear NO OKN
      by_cases a1 : q < 1
      · have hbad : ¬ FOk (p, q) := fun h => by have := h.1; have := h.2.1; have := h.2.2.1; have := h.2.2.2; simp only at *; omega
        have HBAD := Lib.hid hbad
        clear hbad
        have d1 : decide (q < 1) = true := decide_eq_true a1
        go_wp2_with fail
        refine Lex.wp_region_lex (fun w' => w'.cell? ⟨wr.heap.size, 0, none⟩ = some (.int .i64 p) ∧ w'.cell? ⟨wr.heap.size, 1, none⟩ = some (.int .i64 q)) (fun _ => true)
          [(0, true), (1, true), (2, true), (3, true), (4, true), (5, true), (6, true), (7, true), (8, true), (9, true), (10, true), (11, false), (12, true), (13, true), (14, true), (15, true), (16, true), (18, true), (19, true), (17, false), (20, false), (21, false), (22, true), (23, true)]
          (by kernel_rfl) (by kernel_rfl) (by kernel_rfl) (by kernel_rfl) ⟨k0, k1⟩ ?_
        have HBW := Lib.hid hbW.drew
        have k0 : (wr.alloc (.cells #[.int .i64 p, .int .i64 q] 187)).drew.cell? ⟨wr.heap.size, 0, none⟩ = some (.int .i64 p) := k0
        have k1 : (wr.alloc (.cells #[.int .i64 p, .int .i64 q] 187)).drew.cell? ⟨wr.heap.size, 1, none⟩ = some (.int .i64 q) := k1
        clear hbW
        generalize (wr.alloc (.cells #[.int .i64 p, .int .i64 q] 187)).drew = W at *
        iterate 4 (refine Lex.lex_take (v := ?_) rfl rfl (by rfl) (fun _ hS => ?_) ?_; rotate_left 1; (focus (go_split_ands; go_simp; with_reducible rfl)); simp only [List.setIfInBounds_toArray, List.set_cons_zero, List.set_cons_succ])
        iterate 3 (refine Lex.lex_skip rfl rfl (by rfl) ?_; simp only [List.setIfInBounds_toArray, List.set_cons_zero, List.set_cons_succ])
        iterate 2 (refine Lex.lex_take (v := ?_) rfl rfl (by rfl) (fun _ hS => ?_) ?_; rotate_left 1; (focus (go_split_ands; go_simp; with_reducible rfl)); simp only [List.setIfInBounds_toArray, List.set_cons_zero, List.set_cons_succ])
        iterate 2 (refine Lex.lex_skip rfl rfl (by rfl) ?_; simp only [List.setIfInBounds_toArray, List.set_cons_zero, List.set_cons_succ])
        refine Lex.lex_do rfl ?_
        go_wp2_with fail
        refine Lex.lexQ_normal (fun _ => ⟨k0, k1⟩) ?_
        iterate 1 (refine Lex.lex_skip rfl rfl (by rfl) ?_; simp only [List.setIfInBounds_toArray, List.set_cons_zero, List.set_cons_succ])
        iterate 2 (refine Lex.lex_take (v := ?_) rfl rfl (by rfl) (fun _ hS => ?_) ?_; rotate_left 1; (focus (go_split_ands; go_simp; with_reducible rfl)); simp only [List.setIfInBounds_toArray, List.set_cons_zero, List.set_cons_succ])
        iterate 4 (refine Lex.lex_skip rfl rfl (by rfl) ?_; simp only [List.setIfInBounds_toArray, List.set_cons_zero, List.set_cons_succ])
        refine Lex.lex_do rfl ?_
        go_wp2_with fail
        refine Lex.lexQ_normal (fun _ => ⟨k0, k1⟩) ?_
        refine Lex.lex_do rfl ?_
        go_wp2_with fail
        refine Lex.lexQ_normal (fun _ => ⟨k0, k1⟩) ?_
        refine Lex.lex_do rfl ?_
        go_wp2_with fail
        refine Lex.lexQ_normal (fun _ => ⟨k0, k1⟩) ?_
        iterate 1 (refine Lex.lex_skip rfl rfl (by rfl) ?_; simp only [List.setIfInBounds_toArray, List.set_cons_zero, List.set_cons_succ])
        iterate 1 (refine Lex.lex_take (v := ?_) rfl rfl (by rfl) (fun _ hS => ?_) ?_; rotate_left 1; (focus (go_split_ands; go_simp; with_reducible rfl)); simp only [List.setIfInBounds_toArray, List.set_cons_zero, List.set_cons_succ])
        refine Lex.lex_nil ?_
        go_wp2
        go_ret
        exact ⟨ret_bool (HNO.out _ rfl HX.out HBAD.out).symm, by first | exact HBW.out | exact below_drewN' HBW.out _⟩
      · by_cases a2 : 4611686018427387904 < q
        · have hbad : ¬ FOk (p, q) := fun h => by have := h.1; have := h.2.1; have := h.2.2.1; have := h.2.2.2; simp only at *; omega
          have HBAD := Lib.hid hbad
          clear hbad
          have d1 : decide (q < 1) = false := decide_eq_false a1
          have d2 : decide (4611686018427387904 < q) = true := decide_eq_true a2
          go_wp2_with fail
          refine Lex.wp_region_lex (fun w' => w'.cell? ⟨wr.heap.size, 0, none⟩ = some (.int .i64 p) ∧ w'.cell? ⟨wr.heap.size, 1, none⟩ = some (.int .i64 q)) (fun _ => true)
            [(0, true), (1, true), (2, true), (3, true), (4, true), (5, true), (6, true), (7, true), (8, true), (9, true), (10, true), (11, false), (12, true), (13, true), (14, true), (15, true), (16, true), (18, true), (19, true), (17, false), (20, false), (21, false), (22, true), (23, true)]
            (by kernel_rfl) (by kernel_rfl) (by kernel_rfl) (by kernel_rfl) ⟨k0, k1⟩ ?_
          have HBW := Lib.hid hbW.drew
          have k0 : (wr.alloc (.cells #[.int .i64 p, .int .i64 q] 187)).drew.cell? ⟨wr.heap.size, 0, none⟩ = some (.int .i64 p) := k0
          have k1 : (wr.alloc (.cells #[.int .i64 p, .int .i64 q] 187)).drew.cell? ⟨wr.heap.size, 1, none⟩ = some (.int .i64 q) := k1
          clear hbW
          generalize (wr.alloc (.cells #[.int .i64 p, .int .i64 q] 187)).drew = W at *
          iterate 9 (refine Lex.lex_take (v := ?_) rfl rfl (by rfl) (fun _ hS => ?_) ?_; rotate_left 1; (focus (go_split_ands; go_simp; with_reducible rfl)); simp only [List.setIfInBounds_toArray, List.set_cons_zero, List.set_cons_succ])
          iterate 2 (refine Lex.lex_skip rfl rfl (by rfl) ?_; simp only [List.setIfInBounds_toArray, List.set_cons_zero, List.set_cons_succ])
          refine Lex.lex_do rfl ?_
          go_wp2_with fail
          refine Lex.lexQ_normal (fun _ => ⟨k0, k1⟩) ?_
          iterate 1 (refine Lex.lex_skip rfl rfl (by rfl) ?_; simp only [List.setIfInBounds_toArray, List.set_cons_zero, List.set_cons_succ])
          iterate 2 (refine Lex.lex_take (v := ?_) rfl rfl (by rfl) (fun _ hS => ?_) ?_; rotate_left 1; (focus (go_split_ands; go_simp; with_reducible rfl)); simp only [List.setIfInBounds_toArray, List.set_cons_zero, List.set_cons_succ])
          iterate 4 (refine Lex.lex_skip rfl rfl (by rfl) ?_; simp only [List.setIfInBounds_toArray, List.set_cons_zero, List.set_cons_succ])
          refine Lex.lex_do rfl ?_
          go_wp2_with fail
          refine Lex.lexQ_normal (fun _ => ⟨k0, k1⟩) ?_
          refine Lex.lex_do rfl ?_
          go_wp2_with fail
          refine Lex.lexQ_normal (fun _ => ⟨k0, k1⟩) ?_
          refine Lex.lex_do rfl ?_
          go_wp2_with fail
          refine Lex.lexQ_normal (fun _ => ⟨k0, k1⟩) ?_
          iterate 1 (refine Lex.lex_skip rfl rfl (by rfl) ?_; simp only [List.setIfInBounds_toArray, List.set_cons_zero, List.set_cons_succ])
          iterate 1 (refine Lex.lex_take (v := ?_) rfl rfl (by rfl) (fun _ hS => ?_) ?_; rotate_left 1; (focus (go_split_ands; go_simp; with_reducible rfl)); simp only [List.setIfInBounds_toArray, List.set_cons_zero, List.set_cons_succ])
          refine Lex.lex_nil ?_
          go_wp2
          go_ret
          exact ⟨ret_bool (HNO.out _ rfl HX.out HBAD.out).symm, by first | exact HBW.out | exact below_drewN' HBW.out _⟩
        · by_cases a3 : 4611686018427387904 < (p.natAbs : Int)
          · have hbad : ¬ FOk (p, q) := fun h => by have := h.1; have := h.2.1; have := h.2.2.1; have := h.2.2.2; simp only at *; omega
            have HBAD := Lib.hid hbad
            clear hbad
            have d1 : decide (q < 1) = false := decide_eq_false a1
            have d2 : decide (4611686018427387904 < q) = false := decide_eq_false a2
            have cs : ∀ W, Calls Tryz.prog 305 #[.int .i64 p] W fun e w' => e = .returned (.int .u64 p.natAbs) ∧ W = w' := fun W => (size_any p W ⟨p1, p2⟩).mono fun e w' h => ⟨h.1, h.2.symm⟩
            have d3 : decide (4611686018427387904 < (p.natAbs : Int)) = true := decide_eq_true a3
            go_wp2_with fail
            refine Lex.wp_region_lex (fun w' => w'.cell? ⟨wr.heap.size, 0, none⟩ = some (.int .i64 p) ∧ w'.cell? ⟨wr.heap.size, 1, none⟩ = some (.int .i64 q)) (fun _ => true)
              [(0, true), (1, true), (2, true), (3, true), (4, true), (5, true), (6, true), (7, true), (8, true), (9, true), (10, true), (11, false), (12, true), (13, true), (14, true), (15, true), (16, true), (18, true), (19, true), (17, false), (20, false), (21, false), (22, true), (23, true)]
              (by kernel_rfl) (by kernel_rfl) (by kernel_rfl) (by kernel_rfl) ⟨k0, k1⟩ ?_
            have HBW := Lib.hid hbW.drew
            have k0 : (wr.alloc (.cells #[.int .i64 p, .int .i64 q] 187)).drew.cell? ⟨wr.heap.size, 0, none⟩ = some (.int .i64 p) := k0
            have k1 : (wr.alloc (.cells #[.int .i64 p, .int .i64 q] 187)).drew.cell? ⟨wr.heap.size, 1, none⟩ = some (.int .i64 q) := k1
            clear hbW
            generalize (wr.alloc (.cells #[.int .i64 p, .int .i64 q] 187)).drew = W at *
            iterate 11 (refine Lex.lex_take (v := ?_) rfl rfl (by rfl) (fun _ hS => ?_) ?_; rotate_left 1; (focus (go_split_ands; go_simp; with_reducible rfl)); simp only [List.setIfInBounds_toArray, List.set_cons_zero, List.set_cons_succ])
            refine Lex.lex_do rfl ?_
            go_wp2_with fail
            refine (cs W).mono ?_
            rintro e V ⟨rfl, rfl⟩
            go_wp2_with fail
            refine Lex.lexQ_normal (fun _ => ⟨k0, k1⟩) ?_
            iterate 3 (refine Lex.lex_take (v := ?_) rfl rfl (by rfl) (fun _ hS => ?_) ?_; rotate_left 1; (focus (go_split_ands; go_simp; with_reducible rfl)); simp only [List.setIfInBounds_toArray, List.set_cons_zero, List.set_cons_succ])
            iterate 4 (refine Lex.lex_skip rfl rfl (by rfl) ?_; simp only [List.setIfInBounds_toArray, List.set_cons_zero, List.set_cons_succ])
            refine Lex.lex_do rfl ?_
            go_wp2_with fail
            refine Lex.lexQ_normal (fun _ => ⟨k0, k1⟩) ?_
            refine Lex.lex_do rfl ?_
            go_wp2_with fail
            refine Lex.lexQ_normal (fun _ => ⟨k0, k1⟩) ?_
            refine Lex.lex_do rfl ?_
            go_wp2_with fail
            refine Lex.lexQ_normal (fun _ => ⟨k0, k1⟩) ?_
            iterate 1 (refine Lex.lex_skip rfl rfl (by rfl) ?_; simp only [List.setIfInBounds_toArray, List.set_cons_zero, List.set_cons_succ])
            iterate 1 (refine Lex.lex_take (v := ?_) rfl rfl (by rfl) (fun _ hS => ?_) ?_; rotate_left 1; (focus (go_split_ands; go_simp; with_reducible rfl)); simp only [List.setIfInBounds_toArray, List.set_cons_zero, List.set_cons_succ])
            refine Lex.lex_nil ?_
            go_wp2
            go_ret
            exact ⟨ret_bool (HNO.out _ rfl HX.out HBAD.out).symm, by first | exact HBW.out | exact below_drewN' HBW.out _⟩
          · by_cases a4 : Nat.gcd p.natAbs q.natAbs = 1
            · have hgood : FOk (p, q) := ⟨by simp only; omega, by simp only; omega, by simp only; omega, a4⟩
              have HGOOD := Lib.hid hgood
              clear hgood
              have d1 : decide (q < 1) = false := decide_eq_false a1
              have d2 : decide (4611686018427387904 < q) = false := decide_eq_false a2
              have cs : ∀ W, Calls Tryz.prog 305 #[.int .i64 p] W fun e w' => e = .returned (.int .u64 p.natAbs) ∧ W = w' := fun W => (size_any p W ⟨p1, p2⟩).mono fun e w' h => ⟨h.1, h.2.symm⟩
              have ct : ∀ W, Calls Tryz.prog 305 #[.int .i64 q] W fun e w' => e = .returned (.int .u64 q.natAbs) ∧ W = w' := fun W => (size_any q W ⟨q1, q2⟩).mono fun e w' h => ⟨h.1, h.2.symm⟩
              have cg : ∀ W, Calls Tryz.prog 306 #[.int .u64 p.natAbs, .int .u64 q.natAbs] W fun e w' => e = .returned (.int .u64 (Nat.gcd p.natAbs q.natAbs : Nat)) ∧ ∃ z, w' = W.drewN z := fun W => gcd_any p.natAbs q.natAbs W (by omega) (by omega)
              have d3 : decide (4611686018427387904 < (p.natAbs : Int)) = false := decide_eq_false a3
              generalize Nat.gcd p.natAbs q.natAbs = g at cg a4
              have d4 : decide ((g : Int) = 1) = true := decide_eq_true (by omega)
              go_wp2_with fail
              refine Lex.wp_region_lex (fun w' => w'.cell? ⟨wr.heap.size, 0, none⟩ = some (.int .i64 p) ∧ w'.cell? ⟨wr.heap.size, 1, none⟩ = some (.int .i64 q)) (fun _ => true)
                [(0, true), (1, true), (2, true), (3, true), (4, true), (5, true), (6, true), (7, true), (8, true), (9, true), (10, true), (11, false), (12, true), (13, true), (14, true), (15, true), (16, true), (18, true), (19, true), (17, false), (20, false), (21, false), (22, true), (23, true)]
                (by kernel_rfl) (by kernel_rfl) (by kernel_rfl) (by kernel_rfl) ⟨k0, k1⟩ ?_
              have HBW := Lib.hid hbW.drew
              have k0 : (wr.alloc (.cells #[.int .i64 p, .int .i64 q] 187)).drew.cell? ⟨wr.heap.size, 0, none⟩ = some (.int .i64 p) := k0
              have k1 : (wr.alloc (.cells #[.int .i64 p, .int .i64 q] 187)).drew.cell? ⟨wr.heap.size, 1, none⟩ = some (.int .i64 q) := k1
              clear hbW
              generalize (wr.alloc (.cells #[.int .i64 p, .int .i64 q] 187)).drew = W at *
              iterate 11 (refine Lex.lex_take (v := ?_) rfl rfl (by rfl) (fun _ hS => ?_) ?_; rotate_left 1; (focus (go_split_ands; go_simp; with_reducible rfl)); simp only [List.setIfInBounds_toArray, List.set_cons_zero, List.set_cons_succ])
              refine Lex.lex_do rfl ?_
              go_wp2_with fail
              refine (cs W).mono ?_
              rintro e V ⟨rfl, rfl⟩
              go_wp2_with fail
              refine Lex.lexQ_normal (fun _ => ⟨k0, k1⟩) ?_
              iterate 7 (refine Lex.lex_take (v := ?_) rfl rfl (by rfl) (fun _ hS => ?_) ?_; rotate_left 1; (focus (go_split_ands; go_simp; with_reducible rfl)); simp only [List.setIfInBounds_toArray, List.set_cons_zero, List.set_cons_succ])
              refine Lex.lex_do rfl ?_
              go_wp2_with fail
              refine (cs W).mono ?_
              rintro e V ⟨rfl, rfl⟩
              go_wp2_with fail
              refine Lex.lexQ_normal (fun _ => ⟨k0, k1⟩) ?_
              refine Lex.lex_do rfl ?_
              go_wp2_with fail
              refine (ct W).mono ?_
              rintro e V ⟨rfl, rfl⟩
              go_wp2_with fail
              refine Lex.lexQ_normal (fun _ => ⟨k0, k1⟩) ?_
              refine Lex.lex_do rfl ?_
              go_wp2_with fail
              refine (cg W).mono ?_
              rintro e V ⟨rfl, zz, rfl⟩
              go_wp2_with fail
              refine Lex.lexQ_normal (fun _ => ⟨k0, k1⟩) ?_
              iterate 2 (refine Lex.lex_take (v := ?_) rfl rfl (by rfl) (fun _ hS => ?_) ?_; rotate_left 1; (focus (go_split_ands; go_simp; with_reducible rfl)); simp only [List.setIfInBounds_toArray, List.set_cons_zero, List.set_cons_succ])
              refine Lex.lex_nil ?_
              go_wp2
              go_roundw
              case rel => exact ⟨k + 1, by omega, by go_num, HOKN.out HX.out HGOOD.out, below_drewN' HBW.out _⟩
              case measure => simp [intOf]; omega
            · have hbad : ¬ FOk (p, q) := fun h => by have := h.1; have := h.2.1; have := h.2.2.1; have := h.2.2.2; simp only at *; omega
              have HBAD := Lib.hid hbad
              clear hbad
              have d1 : decide (q < 1) = false := decide_eq_false a1
              have d2 : decide (4611686018427387904 < q) = false := decide_eq_false a2
              have cs : ∀ W, Calls Tryz.prog 305 #[.int .i64 p] W fun e w' => e = .returned (.int .u64 p.natAbs) ∧ W = w' := fun W => (size_any p W ⟨p1, p2⟩).mono fun e w' h => ⟨h.1, h.2.symm⟩
              have ct : ∀ W, Calls Tryz.prog 305 #[.int .i64 q] W fun e w' => e = .returned (.int .u64 q.natAbs) ∧ W = w' := fun W => (size_any q W ⟨q1, q2⟩).mono fun e w' h => ⟨h.1, h.2.symm⟩
              have cg : ∀ W, Calls Tryz.prog 306 #[.int .u64 p.natAbs, .int .u64 q.natAbs] W fun e w' => e = .returned (.int .u64 (Nat.gcd p.natAbs q.natAbs : Nat)) ∧ ∃ z, w' = W.drewN z := fun W => gcd_any p.natAbs q.natAbs W (by omega) (by omega)
              have d3 : decide (4611686018427387904 < (p.natAbs : Int)) = false := decide_eq_false a3
              generalize Nat.gcd p.natAbs q.natAbs = g at cg a4
              have d4 : decide ((g : Int) = 1) = false := decide_eq_false (by omega)
              go_wp2_with fail
              refine Lex.wp_region_lex (fun w' => w'.cell? ⟨wr.heap.size, 0, none⟩ = some (.int .i64 p) ∧ w'.cell? ⟨wr.heap.size, 1, none⟩ = some (.int .i64 q)) (fun _ => true)
                [(0, true), (1, true), (2, true), (3, true), (4, true), (5, true), (6, true), (7, true), (8, true), (9, true), (10, true), (11, false), (12, true), (13, true), (14, true), (15, true), (16, true), (18, true), (19, true), (17, false), (20, false), (21, false), (22, true), (23, true)]
                (by kernel_rfl) (by kernel_rfl) (by kernel_rfl) (by kernel_rfl) ⟨k0, k1⟩ ?_
              have HBW := Lib.hid hbW.drew
              have k0 : (wr.alloc (.cells #[.int .i64 p, .int .i64 q] 187)).drew.cell? ⟨wr.heap.size, 0, none⟩ = some (.int .i64 p) := k0
              have k1 : (wr.alloc (.cells #[.int .i64 p, .int .i64 q] 187)).drew.cell? ⟨wr.heap.size, 1, none⟩ = some (.int .i64 q) := k1
              clear hbW
              generalize (wr.alloc (.cells #[.int .i64 p, .int .i64 q] 187)).drew = W at *
              iterate 11 (refine Lex.lex_take (v := ?_) rfl rfl (by rfl) (fun _ hS => ?_) ?_; rotate_left 1; (focus (go_split_ands; go_simp; with_reducible rfl)); simp only [List.setIfInBounds_toArray, List.set_cons_zero, List.set_cons_succ])
              refine Lex.lex_do rfl ?_
              go_wp2_with fail
              refine (cs W).mono ?_
              rintro e V ⟨rfl, rfl⟩
              go_wp2_with fail
              refine Lex.lexQ_normal (fun _ => ⟨k0, k1⟩) ?_
              iterate 7 (refine Lex.lex_take (v := ?_) rfl rfl (by rfl) (fun _ hS => ?_) ?_; rotate_left 1; (focus (go_split_ands; go_simp; with_reducible rfl)); simp only [List.setIfInBounds_toArray, List.set_cons_zero, List.set_cons_succ])
              refine Lex.lex_do rfl ?_
              go_wp2_with fail
              refine (cs W).mono ?_
              rintro e V ⟨rfl, rfl⟩
              go_wp2_with fail
              refine Lex.lexQ_normal (fun _ => ⟨k0, k1⟩) ?_
              refine Lex.lex_do rfl ?_
              go_wp2_with fail
              refine (ct W).mono ?_
              rintro e V ⟨rfl, rfl⟩
              go_wp2_with fail
              refine Lex.lexQ_normal (fun _ => ⟨k0, k1⟩) ?_
              refine Lex.lex_do rfl ?_
              go_wp2_with fail
              refine (cg W).mono ?_
              rintro e V ⟨rfl, zz, rfl⟩
              go_wp2_with fail
              refine Lex.lexQ_normal (fun _ => ⟨k0, k1⟩) ?_
              iterate 2 (refine Lex.lex_take (v := ?_) rfl rfl (by rfl) (fun _ hS => ?_) ?_; rotate_left 1; (focus (go_split_ands; go_simp; with_reducible rfl)); simp only [List.setIfInBounds_toArray, List.set_cons_zero, List.set_cons_succ])
              refine Lex.lex_nil ?_
              go_wp2
              go_ret
              exact ⟨ret_bool (HNO.out _ rfl HX.out HBAD.out).symm, by first | exact HBW.out | exact below_drewN' HBW.out _⟩
    · have hall : decide (∀ x ∈ l, FOk x) = true := decide_eq_true fun x hx => by
        obtain ⟨j, hj, rfl⟩ := List.getElem_of_mem hx
        exact HOK.out j hj (by have := HN.out; omega)
      have HALL := Lib.hid hall
      clear hall
      go_wp2
      go_ret
      exact ⟨ret_bool HALL.out.symm, HB.out⟩

end Go.Proofs.YtbkgbkmpalbdpaaGreatDoor.G
