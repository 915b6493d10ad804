/- Texts N O in one. -/
import Derived.Test.YtklngjjokbhfpaaGreatDoorPkK
import Derived.Test.YtklngjjokbhfpaaGreatDoorM
namespace Go.Proofs.YtklngjjokbhfpaaGreatDoor
open Go.RowKit

/-- The value v is a wide fraction's two integers, p and q. -/
def IsQ (w : World) (v : Value) (p q : Int) (N : Nat) : Prop := ∃ (na : Bool) (a : Value) (nb : Bool) (b : Value), v = .agg #[.bool na, a, .bool nb, b] ∧ IsZ w (.agg #[.bool na, a]) p N ∧ IsZ w (.agg #[.bool nb, b]) q N
theorem IsQ.below {w w' : World} {v : Value} {p q : Int} {N : Nat} (h : IsQ w v p q N) (hb : Below w.heap.size w w') : IsQ w' v p q N := by
  obtain ⟨na, a, nb, b, h1, h2, h3⟩ := h
  exact ⟨na, a, nb, b, h1, h2.below hb, h3.below hb⟩
theorem qcell_no (off : Nat) (x : Int) : (#[.bool false, .slice none 0 0, .bool false, .slice none 0 0] : Array Value)[off]? ≠ some (.int .u32 x) := by
  intro h
  rcases off with _ | _ | _ | _ | off <;> simp at h
theorem IsZ.storedQ {w : World} {v : Value} {z : Int} {N R : Nat} {u0 u1 u2 u3 : Value} {fr : Nat × Nat} (h : IsZ w v z N) (hR : w.heap[R]? = some (.cells #[.bool false, .slice none 0 0, .bool false, .slice none 0 0] 93 fr)) : IsZ ((((w.setCell ⟨R, 0, none⟩ u0).setCell ⟨R, 1, none⟩ u1).setCell ⟨R, 2, none⟩ u2).setCell ⟨R, 3, none⟩ u3) v z N :=
  h.put hR qcell_no (by simp [World.setCell]) fun k hk => by rw [Below.heap_setCell _ _ _ _ (by simpa using hk), Below.heap_setCell _ _ _ _ (by simpa using hk), Below.heap_setCell _ _ _ _ (by simpa using hk), Below.heap_setCell _ _ _ _ (by simpa using hk)]
def RetQ (p q : Int) (N : Nat) (w : World) (e : Ending) (w' : World) : Prop := ∃ v, e = .returned v ∧ IsQ w' v p q N ∧ Below w.heap.size w w'


set_option maxRecDepth 100000 in
set_option maxHeartbeats 1600000 in
theorem from_any (p q : Int) (w : World) (hp : I64 p) (hq : I64 q) :
    Calls Tryz.prog 56 #[.agg #[.int .i64 p, .int .i64 q]] w (RetQ p q 2 w) := by
  have cp := fun W => of_any p W hp
  have cq := fun W => of_any q W hq
  have hB : Below w.heap.size w ((w.alloc (.cells #[.int .i64 p, .int .i64 q] 23)).alloc (.cells #[.bool false, .slice none 0 0, .bool false, .slice none 0 0] 93)) := ((Below.refl _ _).alloc (Nat.le_refl _) _).alloc (by simp) _
  obtain ⟨W3, hW3⟩ : ∃ W3, W3 = (w.alloc (.cells #[.int .i64 p, .int .i64 q] 23)).alloc (.cells #[.bool false, .slice none 0 0, .bool false, .slice none 0 0] 93) := ⟨_, rfl⟩
  have hs3 : W3.heap.size = w.heap.size + 1 + 1 := by rw [hW3]; simp
  have HE : ∀ W, Below (w.heap.size + 1 + 1) W3 W → W.heap[w.heap.size + 1]? = some (.cells #[.bool false, .slice none 0 0, .bool false, .slice none 0 0] 93 (0, 0)) := fun W hb => by
    rw [hb.block (w.heap.size + 1) (by omega), hW3]
    exact heap_alloc_new' _ (.cells #[.bool false, .slice none 0 0, .bool false, .slice none 0 0] 93) (by simp)
  rw [← hW3] at hB
  have HB3 := Lib.hid hB
  clear hB hp hq
  go_enter Tryz.func56, Tryz.ntmps56
  go_wp2_with fail
  rw [← hW3]
  have HW := Lib.hid hW3
  clear hW3
  have hbW := Below.refl (w.heap.size + 1 + 1) W3
  have k0 : W3.cell? ⟨w.heap.size, 0, none⟩ = some (.int .i64 p) := by rw [HW.out]; simp [go_sem]
  have j0 := (hbW.cell (p := ⟨w.heap.size, 0, none⟩) (by show w.heap.size < w.heap.size + 1 + 1; omega)).trans k0
  have k1 : W3.cell? ⟨w.heap.size, 1, none⟩ = some (.int .i64 q) := by rw [HW.out]; simp [go_sem]
  have j1 := (hbW.cell (p := ⟨w.heap.size, 1, none⟩) (by show w.heap.size < w.heap.size + 1 + 1; omega)).trans k1
  refine Lex.wp_region_lex (fun w' => w'.cell? ⟨w.heap.size, 0, none⟩ = some (.int .i64 p) ∧ w'.cell? ⟨w.heap.size, 1, none⟩ = some (.int .i64 q)) (fun j => j != 7)
    [(0, true), (1, true), (3, true), (4, true), (2, false), (5, false), (6, false), (7, false)]
    (by kernel_rfl) (by kernel_rfl) (by kernel_rfl) (by kernel_rfl) ⟨j0, j1⟩ ?_
  iterate 4 (refine Lex.lex_take (v := ?_) rfl rfl (by rfl) (fun _ hS => ?_) ?_; rotate_left 1; (focus (go_split_ands; go_simp; with_reducible rfl)); simp only [List.setIfInBounds_toArray, List.set_cons_zero, List.set_cons_succ])
  refine Lex.lex_do rfl ?_
  have hb0 : Below (w.heap.size + 1 + 1) W3 W3.drew := hbW.drew
  generalize W3.drew = V0 at *
  clear hbW j0 j1
  go_wp2_with fail
  refine (cp _).mono ?_
  rintro e V1 ⟨v1, rfl, hm1, hn1⟩
  have hb1 : Below (w.heap.size + 1 + 1) W3 V1 := hb0.trans (hn1.mono (by have := hb0.size; omega))
  have hn1 := Lib.hid hn1
  go_wp2_with fail
  have j0 := (hb1.cell (p := ⟨w.heap.size, 0, none⟩) (by show w.heap.size < w.heap.size + 1 + 1; omega)).trans k0
  have j1 := (hb1.cell (p := ⟨w.heap.size, 1, none⟩) (by show w.heap.size < w.heap.size + 1 + 1; omega)).trans k1
  refine Lex.lexQ_normal (fun _ => ⟨j0, j1⟩) ?_
  refine Lex.lex_do rfl ?_
  clear j0 j1
  go_wp2_with fail
  refine (cq _).mono ?_
  rintro e V2 ⟨v2, rfl, hm2, hn2⟩
  have hb2 : Below (w.heap.size + 1 + 1) W3 V2 := hb1.trans (hn2.mono (by have := hb1.size; omega))
  have hn2 := Lib.hid hn2
  go_wp2_with fail
  have j0 := (hb2.cell (p := ⟨w.heap.size, 0, none⟩) (by show w.heap.size < w.heap.size + 1 + 1; omega)).trans k0
  have j1 := (hb2.cell (p := ⟨w.heap.size, 1, none⟩) (by show w.heap.size < w.heap.size + 1 + 1; omega)).trans k1
  refine Lex.lexQ_normal (fun _ => ⟨j0, j1⟩) ?_
  refine Lex.lex_do rfl ?_
  clear j0 j1
  obtain ⟨neg1, A1, n1, c1, m1, rfl, -, -, -, -, -⟩ := hm1.open'
  obtain ⟨neg2, A2, n2, c2, m2, rfl, -, -, -, -, -⟩ := hm2.open'
  go_wp2_with fail
  have j0 := (hb2.cell (p := ⟨w.heap.size, 0, none⟩) (by show w.heap.size < w.heap.size + 1 + 1; omega)).trans k0
  have j1 := (hb2.cell (p := ⟨w.heap.size, 1, none⟩) (by show w.heap.size < w.heap.size + 1 + 1; omega)).trans k1
  refine Lex.lexQ_normal (fun _ => ⟨j0, j1⟩) ?_
  refine Lex.lex_do rfl ?_
  clear j0 j1
  have hR := HE _ hb2
  have HST1 := Lib.hid ((hm1.below hn2.out).storedQ (u0 := .bool neg1) (u1 := .slice A1 n1 c1) (u2 := .bool neg2) (u3 := .slice A2 n2 c2) hR)
  have HST2 := Lib.hid (hm2.storedQ (u0 := .bool neg1) (u1 := .slice A1 n1 c1) (u2 := .bool neg2) (u3 := .slice A2 n2 c2) hR)
  have q0 : V2.cell? ⟨w.heap.size + 1, 0, none⟩ = some (.bool false) := by simp [World.cell?, hR]
  have f0 : V2.frozen? ⟨w.heap.size + 1, 0, none⟩ = false := by simp [World.frozen?, hR]
  have q1 : V2.cell? ⟨w.heap.size + 1, 1, none⟩ = some (.slice none 0 0) := by simp [World.cell?, hR]
  have f1 : V2.frozen? ⟨w.heap.size + 1, 1, none⟩ = false := by simp [World.frozen?, hR]
  have q2 : V2.cell? ⟨w.heap.size + 1, 2, none⟩ = some (.bool false) := by simp [World.cell?, hR]
  have f2 : V2.frozen? ⟨w.heap.size + 1, 2, none⟩ = false := by simp [World.frozen?, hR]
  have q3 : V2.cell? ⟨w.heap.size + 1, 3, none⟩ = some (.slice none 0 0) := by simp [World.cell?, hR]
  have f3 : V2.frozen? ⟨w.heap.size + 1, 3, none⟩ = false := by simp [World.frozen?, hR]
  have HB := Lib.hid (HB3.out.trans (hb2.mono (by omega)))
  clear hm1 hm2 hR cp cq
  go_wp2_with fail
  refine Lex.lexQ_normal (fun h => absurd h (by decide)) ?_
  refine Lex.lex_nil ?_
  go_wp2
  refine bodyPost_ret (v := .agg #[.bool neg1, .slice A1 n1 c1, .bool neg2, .slice A2 n2 c2]) (by simp [results, Tryz.results56, go_sem, q0, q1, q2, q3]) rfl ⟨_, rfl, ⟨neg1, _, neg2, _, rfl, HST1.out, HST2.out⟩, ?_⟩
  exact (((HB.out.setCell (by show w.heap.size ≤ w.heap.size + 1; omega) _).setCell (by show w.heap.size ≤ w.heap.size + 1; omega) _).setCell (by show w.heap.size ≤ w.heap.size + 1; omega) _).setCell (by show w.heap.size ≤ w.heap.size + 1; omega) _

end Go.Proofs.YtklngjjokbhfpaaGreatDoor

namespace Go.Proofs.YtklngjjokbhfpaaGreatDoor
open Go.RowKit

theorem IsQ.open' {w : World} {v : Value} {p q : Int} {N : Nat} (h : IsQ w v p q N) : ∃ (na : Bool) (A : Option Addr) (n c : Nat) (nb : Bool) (B : Option Addr) (m d : Nat), v = .agg #[.bool na, .slice A n c, .bool nb, .slice B m d] ∧ IsZ w (.agg #[.bool na, .slice A n c]) p N ∧ IsZ w (.agg #[.bool nb, .slice B m d]) q N := by
  obtain ⟨na, a, nb, b, rfl, h1, h2⟩ := h
  obtain ⟨na', A, n, c, _, h3, -⟩ := h1.open'
  obtain ⟨nb', B, m, d, _, h4, -⟩ := h2.open'
  simp at h3 h4
  obtain ⟨rfl, rfl⟩ := h3
  obtain ⟨rfl, rfl⟩ := h4
  exact ⟨na, A, n, c, nb, B, m, d, rfl, h1, h2⟩
/-- A run that answers a value and leaves what was there; the value with a letter. -/
def RetW (x : Value) (w : World) (e : Ending) (w' : World) : Prop := ∃ v, e = .returned v ∧ v = x ∧ Below w.heap.size w w'
theorem RetW.of {x : Value} {w w' : World} {e : Ending} (h : RetV x w e w') : RetW x w e w' := ⟨x, h.1, rfl, h.2⟩


set_option maxRecDepth 100000 in
set_option maxHeartbeats 1600000 in
theorem rcmp_any {w : World} {u v : Value} {p q p1 q1 : Int} {N M : Nat} (hu : IsQ w u p q N) (hv : IsQ w v p1 q1 M) (hN : N ≤ 200) (hM : M ≤ 200) :
    Calls Tryz.prog 57 #[u, v] w (RetV (.int .i64 (sgn (p * q1 - p1 * q))) w) := by
  obtain ⟨na, A, n, c, nb, B, m, d, rfl, hp, hq⟩ := hu.open'
  obtain ⟨na1, A1, n1, c1, nb1, B1, m1, d1, rfl, hp1, hq1⟩ := hv.open'
  have ca : ∀ W, Below w.heap.size w W → Calls Tryz.prog 79 #[.agg #[.bool na, .slice A n c], .agg #[.bool nb1, .slice B1 m1 d1]] W (RetZ (p * q1) (N + M) W) := fun W hb => mul_any (hp.below hb) (hq1.below hb) (by omega) (by omega)
  have cb : ∀ W, Below w.heap.size w W → Calls Tryz.prog 79 #[.agg #[.bool na1, .slice A1 n1 c1], .agg #[.bool nb, .slice B m d]] W (RetZ (p1 * q) (M + N) W) := fun W hb => mul_any (hp1.below hb) (hq.below hb) (by omega) (by omega)
  have cc : ∀ W v1 v2, IsZ W v1 (p * q1) (N + M) → IsZ W v2 (p1 * q) (M + N) → Calls Tryz.prog 80 #[v1, v2] W (RetW (.int .i64 (sgn (p * q1 - p1 * q))) W) := fun W v1 v2 h1 h2 => (zcmp_any h1 h2 (by omega) (by omega)).mono fun e w' h => RetW.of h
  clear hu hv hp hq hp1 hq1
  have hB : Below w.heap.size w ((w.alloc (.cells #[.bool na, .slice A n c, .bool nb, .slice B m d] 93)).alloc (.cells #[.bool na1, .slice A1 n1 c1, .bool nb1, .slice B1 m1 d1] 93)) := ((Below.refl _ _).alloc (Nat.le_refl _) _).alloc (by simp) _
  obtain ⟨W3, hW3⟩ : ∃ W3, W3 = (w.alloc (.cells #[.bool na, .slice A n c, .bool nb, .slice B m d] 93)).alloc (.cells #[.bool na1, .slice A1 n1 c1, .bool nb1, .slice B1 m1 d1] 93) := ⟨_, rfl⟩
  have hs3 : W3.heap.size = w.heap.size + 1 + 1 := by rw [hW3]; simp
  rw [← hW3] at hB
  have HB3 := Lib.hid hB
  clear hB
  go_enter Tryz.func57, Tryz.ntmps57
  go_wp2_with fail
  rw [← hW3]
  have HW := Lib.hid hW3
  clear hW3
  have hbW := Below.refl (w.heap.size + 1 + 1) W3
  have k0 : W3.cell? ⟨w.heap.size, 0, none⟩ = some (.bool na) := by rw [HW.out]; simp [go_sem]
  have j0 := (hbW.cell (p := ⟨w.heap.size, 0, none⟩) (by show w.heap.size < w.heap.size + 1 + 1; omega)).trans k0
  have k1 : W3.cell? ⟨w.heap.size, 1, none⟩ = some (.slice A n c) := by rw [HW.out]; simp [go_sem]
  have j1 := (hbW.cell (p := ⟨w.heap.size, 1, none⟩) (by show w.heap.size < w.heap.size + 1 + 1; omega)).trans k1
  have k2 : W3.cell? ⟨w.heap.size, 2, none⟩ = some (.bool nb) := by rw [HW.out]; simp [go_sem]
  have j2 := (hbW.cell (p := ⟨w.heap.size, 2, none⟩) (by show w.heap.size < w.heap.size + 1 + 1; omega)).trans k2
  have k3 : W3.cell? ⟨w.heap.size, 3, none⟩ = some (.slice B m d) := by rw [HW.out]; simp [go_sem]
  have j3 := (hbW.cell (p := ⟨w.heap.size, 3, none⟩) (by show w.heap.size < w.heap.size + 1 + 1; omega)).trans k3
  have k4 : W3.cell? ⟨w.heap.size + 1, 0, none⟩ = some (.bool na1) := by rw [HW.out]; simp [go_sem]
  have j4 := (hbW.cell (p := ⟨w.heap.size + 1, 0, none⟩) (by show w.heap.size + 1 < w.heap.size + 1 + 1; omega)).trans k4
  have k5 : W3.cell? ⟨w.heap.size + 1, 1, none⟩ = some (.slice A1 n1 c1) := by rw [HW.out]; simp [go_sem]
  have j5 := (hbW.cell (p := ⟨w.heap.size + 1, 1, none⟩) (by show w.heap.size + 1 < w.heap.size + 1 + 1; omega)).trans k5
  have k6 : W3.cell? ⟨w.heap.size + 1, 2, none⟩ = some (.bool nb1) := by rw [HW.out]; simp [go_sem]
  have j6 := (hbW.cell (p := ⟨w.heap.size + 1, 2, none⟩) (by show w.heap.size + 1 < w.heap.size + 1 + 1; omega)).trans k6
  have k7 : W3.cell? ⟨w.heap.size + 1, 3, none⟩ = some (.slice B1 m1 d1) := by rw [HW.out]; simp [go_sem]
  have j7 := (hbW.cell (p := ⟨w.heap.size + 1, 3, none⟩) (by show w.heap.size + 1 < w.heap.size + 1 + 1; omega)).trans k7
  refine Lex.wp_region_lex (fun w' => w'.cell? ⟨w.heap.size, 0, none⟩ = some (.bool na) ∧ w'.cell? ⟨w.heap.size, 1, none⟩ = some (.slice A n c) ∧ w'.cell? ⟨w.heap.size, 2, none⟩ = some (.bool nb) ∧ w'.cell? ⟨w.heap.size, 3, none⟩ = some (.slice B m d) ∧ w'.cell? ⟨w.heap.size + 1, 0, none⟩ = some (.bool na1) ∧ w'.cell? ⟨w.heap.size + 1, 1, none⟩ = some (.slice A1 n1 c1) ∧ w'.cell? ⟨w.heap.size + 1, 2, none⟩ = some (.bool nb1) ∧ w'.cell? ⟨w.heap.size + 1, 3, none⟩ = some (.slice B1 m1 d1)) (fun j => j != 11)
    [(0, true), (1, true), (2, true), (3, true), (5, true), (6, true), (7, true), (8, true), (4, false), (9, false), (10, false), (11, false)]
    (by kernel_rfl) (by kernel_rfl) (by kernel_rfl) (by kernel_rfl) ⟨j0, j1, j2, j3, j4, j5, j6, j7⟩ ?_
  iterate 8 (refine Lex.lex_take (v := ?_) rfl rfl (by rfl) (fun _ hS => ?_) ?_; rotate_left 1; (focus (go_split_ands; go_simp; with_reducible rfl)); simp only [List.setIfInBounds_toArray, List.set_cons_zero, List.set_cons_succ])
  refine Lex.lex_do rfl ?_
  have hb0 : Below (w.heap.size + 1 + 1) W3 W3.drew := hbW.drew
  generalize W3.drew = V0 at *
  clear hbW j0 j1 j2 j3 j4 j5 j6 j7
  replace ca := ca _ (HB3.out.trans (hb0.mono (by omega)))
  go_wp2_with fail
  refine (ca).mono ?_
  rintro e V1 ⟨v1, rfl, hm1, hn1⟩
  have hb1 : Below (w.heap.size + 1 + 1) W3 V1 := hb0.trans (hn1.mono (by have := hb0.size; omega))
  have hn1 := Lib.hid hn1
  go_wp2_with fail
  have j0 := (hb1.cell (p := ⟨w.heap.size, 0, none⟩) (by show w.heap.size < w.heap.size + 1 + 1; omega)).trans k0
  have j1 := (hb1.cell (p := ⟨w.heap.size, 1, none⟩) (by show w.heap.size < w.heap.size + 1 + 1; omega)).trans k1
  have j2 := (hb1.cell (p := ⟨w.heap.size, 2, none⟩) (by show w.heap.size < w.heap.size + 1 + 1; omega)).trans k2
  have j3 := (hb1.cell (p := ⟨w.heap.size, 3, none⟩) (by show w.heap.size < w.heap.size + 1 + 1; omega)).trans k3
  have j4 := (hb1.cell (p := ⟨w.heap.size + 1, 0, none⟩) (by show w.heap.size + 1 < w.heap.size + 1 + 1; omega)).trans k4
  have j5 := (hb1.cell (p := ⟨w.heap.size + 1, 1, none⟩) (by show w.heap.size + 1 < w.heap.size + 1 + 1; omega)).trans k5
  have j6 := (hb1.cell (p := ⟨w.heap.size + 1, 2, none⟩) (by show w.heap.size + 1 < w.heap.size + 1 + 1; omega)).trans k6
  have j7 := (hb1.cell (p := ⟨w.heap.size + 1, 3, none⟩) (by show w.heap.size + 1 < w.heap.size + 1 + 1; omega)).trans k7
  refine Lex.lexQ_normal (fun _ => ⟨j0, j1, j2, j3, j4, j5, j6, j7⟩) ?_
  refine Lex.lex_do rfl ?_
  clear j0 j1 j2 j3 j4 j5 j6 j7
  clear ca
  replace cb := cb _ (HB3.out.trans (hb1.mono (by omega)))
  go_wp2_with fail
  refine (cb).mono ?_
  rintro e V2 ⟨v2, rfl, hm2, hn2⟩
  have hb2 : Below (w.heap.size + 1 + 1) W3 V2 := hb1.trans (hn2.mono (by have := hb1.size; omega))
  have hn2 := Lib.hid hn2
  go_wp2_with fail
  have j0 := (hb2.cell (p := ⟨w.heap.size, 0, none⟩) (by show w.heap.size < w.heap.size + 1 + 1; omega)).trans k0
  have j1 := (hb2.cell (p := ⟨w.heap.size, 1, none⟩) (by show w.heap.size < w.heap.size + 1 + 1; omega)).trans k1
  have j2 := (hb2.cell (p := ⟨w.heap.size, 2, none⟩) (by show w.heap.size < w.heap.size + 1 + 1; omega)).trans k2
  have j3 := (hb2.cell (p := ⟨w.heap.size, 3, none⟩) (by show w.heap.size < w.heap.size + 1 + 1; omega)).trans k3
  have j4 := (hb2.cell (p := ⟨w.heap.size + 1, 0, none⟩) (by show w.heap.size + 1 < w.heap.size + 1 + 1; omega)).trans k4
  have j5 := (hb2.cell (p := ⟨w.heap.size + 1, 1, none⟩) (by show w.heap.size + 1 < w.heap.size + 1 + 1; omega)).trans k5
  have j6 := (hb2.cell (p := ⟨w.heap.size + 1, 2, none⟩) (by show w.heap.size + 1 < w.heap.size + 1 + 1; omega)).trans k6
  have j7 := (hb2.cell (p := ⟨w.heap.size + 1, 3, none⟩) (by show w.heap.size + 1 < w.heap.size + 1 + 1; omega)).trans k7
  refine Lex.lexQ_normal (fun _ => ⟨j0, j1, j2, j3, j4, j5, j6, j7⟩) ?_
  refine Lex.lex_do rfl ?_
  clear j0 j1 j2 j3 j4 j5 j6 j7
  clear cb
  replace cc := cc _ _ _ (hm1.below hn2.out) hm2
  go_wp2_with fail
  refine (cc).mono ?_
  rintro e V3 ⟨v3, rfl, hm3, hn3⟩
  have hb3 : Below (w.heap.size + 1 + 1) W3 V3 := hb2.trans (hn3.mono (by have := hb2.size; omega))
  have hn3 := Lib.hid hn3
  go_wp2_with fail
  have j0 := (hb3.cell (p := ⟨w.heap.size, 0, none⟩) (by show w.heap.size < w.heap.size + 1 + 1; omega)).trans k0
  have j1 := (hb3.cell (p := ⟨w.heap.size, 1, none⟩) (by show w.heap.size < w.heap.size + 1 + 1; omega)).trans k1
  have j2 := (hb3.cell (p := ⟨w.heap.size, 2, none⟩) (by show w.heap.size < w.heap.size + 1 + 1; omega)).trans k2
  have j3 := (hb3.cell (p := ⟨w.heap.size, 3, none⟩) (by show w.heap.size < w.heap.size + 1 + 1; omega)).trans k3
  have j4 := (hb3.cell (p := ⟨w.heap.size + 1, 0, none⟩) (by show w.heap.size + 1 < w.heap.size + 1 + 1; omega)).trans k4
  have j5 := (hb3.cell (p := ⟨w.heap.size + 1, 1, none⟩) (by show w.heap.size + 1 < w.heap.size + 1 + 1; omega)).trans k5
  have j6 := (hb3.cell (p := ⟨w.heap.size + 1, 2, none⟩) (by show w.heap.size + 1 < w.heap.size + 1 + 1; omega)).trans k6
  have j7 := (hb3.cell (p := ⟨w.heap.size + 1, 3, none⟩) (by show w.heap.size + 1 < w.heap.size + 1 + 1; omega)).trans k7
  refine Lex.lexQ_normal (fun _ => ⟨j0, j1, j2, j3, j4, j5, j6, j7⟩) ?_
  refine Lex.lex_do rfl ?_
  clear j0 j1 j2 j3 j4 j5 j6 j7
  subst hm3
  have HB := Lib.hid (HB3.out.trans (hb3.mono (by omega)))
  clear cc hm1 hm2 hb2 hb1
  go_wp2_with fail
  refine Lex.lexQ_normal (fun h => absurd h (by decide)) ?_
  refine Lex.lex_nil ?_
  go_wp2
  go_ret
  exact ⟨rfl, HB.out⟩

set_option maxRecDepth 100000 in
set_option maxHeartbeats 1600000 in
theorem order_any (p q p1 q1 : Int) (w : World) (hp : I64 p) (hq : I64 q) (hp1 : I64 p1) (hq1 : I64 q1) :
    Calls Tryz.prog 36 #[.agg #[.int .i64 p, .int .i64 q], .agg #[.int .i64 p1, .int .i64 q1]] w (RetV (.int .i64 (sgn (p * q1 - p1 * q))) w) := by
  have ca := fun W => from_any p q W hp hq
  have cb := fun W => from_any p1 q1 W hp1 hq1
  have cc : ∀ W v1 v2, IsQ W v1 p q 2 → IsQ W v2 p1 q1 2 → Calls Tryz.prog 57 #[v1, v2] W (RetW (.int .i64 (sgn (p * q1 - p1 * q))) W) := fun W v1 v2 h1 h2 => (rcmp_any h1 h2 (by omega) (by omega)).mono fun e w' h => RetW.of h
  clear hp hq hp1 hq1
  have hB : Below w.heap.size w ((w.alloc (.cells #[.int .i64 p, .int .i64 q] 23)).alloc (.cells #[.int .i64 p1, .int .i64 q1] 23)) := ((Below.refl _ _).alloc (Nat.le_refl _) _).alloc (by simp) _
  obtain ⟨W3, hW3⟩ : ∃ W3, W3 = (w.alloc (.cells #[.int .i64 p, .int .i64 q] 23)).alloc (.cells #[.int .i64 p1, .int .i64 q1] 23) := ⟨_, rfl⟩
  have hs3 : W3.heap.size = w.heap.size + 1 + 1 := by rw [hW3]; simp
  rw [← hW3] at hB
  have HB3 := Lib.hid hB
  clear hB
  go_enter Tryz.func36, Tryz.ntmps36
  go_wp2_with fail
  rw [← hW3]
  have HW := Lib.hid hW3
  clear hW3
  have hbW := Below.refl (w.heap.size + 1 + 1) W3
  have k0 : W3.cell? ⟨w.heap.size, 0, none⟩ = some (.int .i64 p) := by rw [HW.out]; simp [go_sem]
  have j0 := (hbW.cell (p := ⟨w.heap.size, 0, none⟩) (by show w.heap.size < w.heap.size + 1 + 1; omega)).trans k0
  have k1 : W3.cell? ⟨w.heap.size, 1, none⟩ = some (.int .i64 q) := by rw [HW.out]; simp [go_sem]
  have j1 := (hbW.cell (p := ⟨w.heap.size, 1, none⟩) (by show w.heap.size < w.heap.size + 1 + 1; omega)).trans k1
  have k2 : W3.cell? ⟨w.heap.size + 1, 0, none⟩ = some (.int .i64 p1) := by rw [HW.out]; simp [go_sem]
  have j2 := (hbW.cell (p := ⟨w.heap.size + 1, 0, none⟩) (by show w.heap.size + 1 < w.heap.size + 1 + 1; omega)).trans k2
  have k3 : W3.cell? ⟨w.heap.size + 1, 1, none⟩ = some (.int .i64 q1) := by rw [HW.out]; simp [go_sem]
  have j3 := (hbW.cell (p := ⟨w.heap.size + 1, 1, none⟩) (by show w.heap.size + 1 < w.heap.size + 1 + 1; omega)).trans k3
  refine Lex.wp_region_lex (fun w' => w'.cell? ⟨w.heap.size, 0, none⟩ = some (.int .i64 p) ∧ w'.cell? ⟨w.heap.size, 1, none⟩ = some (.int .i64 q) ∧ w'.cell? ⟨w.heap.size + 1, 0, none⟩ = some (.int .i64 p1) ∧ w'.cell? ⟨w.heap.size + 1, 1, none⟩ = some (.int .i64 q1)) (fun j => j != 5)
    [(0, true), (2, true), (1, false), (3, false), (4, false), (5, false)]
    (by kernel_rfl) (by kernel_rfl) (by kernel_rfl) (by kernel_rfl) ⟨j0, j1, j2, j3⟩ ?_
  iterate 2 (refine Lex.lex_take (v := ?_) rfl rfl (by rfl) (fun _ hS => ?_) ?_; rotate_left 1; (focus (go_split_ands; go_simp; with_reducible rfl)); simp only [List.setIfInBounds_toArray, List.set_cons_zero, List.set_cons_succ])
  refine Lex.lex_do rfl ?_
  have hb0 : Below (w.heap.size + 1 + 1) W3 W3.drew := hbW.drew
  generalize W3.drew = V0 at *
  clear hbW j0 j1 j2 j3
  go_wp2_with fail
  refine (ca _).mono ?_
  rintro e V1 ⟨v1, rfl, hm1, hn1⟩
  have hb1 : Below (w.heap.size + 1 + 1) W3 V1 := hb0.trans (hn1.mono (by have := hb0.size; omega))
  have hn1 := Lib.hid hn1
  go_wp2_with fail
  have j0 := (hb1.cell (p := ⟨w.heap.size, 0, none⟩) (by show w.heap.size < w.heap.size + 1 + 1; omega)).trans k0
  have j1 := (hb1.cell (p := ⟨w.heap.size, 1, none⟩) (by show w.heap.size < w.heap.size + 1 + 1; omega)).trans k1
  have j2 := (hb1.cell (p := ⟨w.heap.size + 1, 0, none⟩) (by show w.heap.size + 1 < w.heap.size + 1 + 1; omega)).trans k2
  have j3 := (hb1.cell (p := ⟨w.heap.size + 1, 1, none⟩) (by show w.heap.size + 1 < w.heap.size + 1 + 1; omega)).trans k3
  refine Lex.lexQ_normal (fun _ => ⟨j0, j1, j2, j3⟩) ?_
  refine Lex.lex_do rfl ?_
  clear j0 j1 j2 j3
  clear ca
  go_wp2_with fail
  refine (cb _).mono ?_
  rintro e V2 ⟨v2, rfl, hm2, hn2⟩
  have hb2 : Below (w.heap.size + 1 + 1) W3 V2 := hb1.trans (hn2.mono (by have := hb1.size; omega))
  have hn2 := Lib.hid hn2
  go_wp2_with fail
  have j0 := (hb2.cell (p := ⟨w.heap.size, 0, none⟩) (by show w.heap.size < w.heap.size + 1 + 1; omega)).trans k0
  have j1 := (hb2.cell (p := ⟨w.heap.size, 1, none⟩) (by show w.heap.size < w.heap.size + 1 + 1; omega)).trans k1
  have j2 := (hb2.cell (p := ⟨w.heap.size + 1, 0, none⟩) (by show w.heap.size + 1 < w.heap.size + 1 + 1; omega)).trans k2
  have j3 := (hb2.cell (p := ⟨w.heap.size + 1, 1, none⟩) (by show w.heap.size + 1 < w.heap.size + 1 + 1; omega)).trans k3
  refine Lex.lexQ_normal (fun _ => ⟨j0, j1, j2, j3⟩) ?_
  refine Lex.lex_do rfl ?_
  clear j0 j1 j2 j3
  clear cb
  replace cc := cc _ _ _ (hm1.below hn2.out) hm2
  go_wp2_with fail
  refine (cc).mono ?_
  rintro e V3 ⟨v3, rfl, hm3, hn3⟩
  have hb3 : Below (w.heap.size + 1 + 1) W3 V3 := hb2.trans (hn3.mono (by have := hb2.size; omega))
  have hn3 := Lib.hid hn3
  go_wp2_with fail
  have j0 := (hb3.cell (p := ⟨w.heap.size, 0, none⟩) (by show w.heap.size < w.heap.size + 1 + 1; omega)).trans k0
  have j1 := (hb3.cell (p := ⟨w.heap.size, 1, none⟩) (by show w.heap.size < w.heap.size + 1 + 1; omega)).trans k1
  have j2 := (hb3.cell (p := ⟨w.heap.size + 1, 0, none⟩) (by show w.heap.size + 1 < w.heap.size + 1 + 1; omega)).trans k2
  have j3 := (hb3.cell (p := ⟨w.heap.size + 1, 1, none⟩) (by show w.heap.size + 1 < w.heap.size + 1 + 1; omega)).trans k3
  refine Lex.lexQ_normal (fun _ => ⟨j0, j1, j2, j3⟩) ?_
  refine Lex.lex_do rfl ?_
  clear j0 j1 j2 j3
  subst hm3
  have HB := Lib.hid (HB3.out.trans (hb3.mono (by omega)))
  clear cc hm1 hm2 hb2 hb1
  go_wp2_with fail
  refine Lex.lexQ_normal (fun h => absurd h (by decide)) ?_
  refine Lex.lex_nil ?_
  go_wp2
  go_ret
  exact ⟨rfl, HB.out⟩

end Go.Proofs.YtklngjjokbhfpaaGreatDoor
