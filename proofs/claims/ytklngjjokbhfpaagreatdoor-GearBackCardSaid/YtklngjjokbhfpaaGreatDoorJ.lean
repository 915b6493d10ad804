/- wide's Add, its cases (printed by genj.py). -/
import Derived.Test.YtklngjjokbhfpaaGreatDoorPkH
namespace Go.Proofs.YtklngjjokbhfpaaGreatDoor
open Go.RowKit

/-- The stored result of a row of calls: what follows the last call. -/
theorem res_zcell {w w1 : World} {s R : Nat} {o1 o2 : Obj} (hs : R = s + 2) (hw : w.heap.size = s) (hb : Below (s + 3) (((w.alloc o1).alloc o2).alloc (.cells #[.bool false, .slice none 0 0] 91)) w1) :
    w1.heap[R]? = some (.cells #[.bool false, .slice none 0 0] 91 (0, 0)) := by
  subst hs hw
  exact (hb.block (w.heap.size + 2) (by omega)).trans (heap_alloc_new' _ (.cells #[.bool false, .slice none 0 0] 91) (by simp))

set_option maxRecDepth 100000 in
set_option maxHeartbeats 1600000 in
theorem add_same (nb : Bool) (A : Option Addr) (n c : Nat) (B : Option Addr) (m d : Nat) (x y : Int) (N M : Nat) (w : World) (hx : Mag w (.slice A n c) x N) (hy : Mag w (.slice B m d) y M) (hN : N ≤ 999) (hM : M ≤ 999) :
    Calls Tryz.prog 115 #[.agg #[.bool nb, .slice A n c], .agg #[.bool nb, .slice B m d]] w (RetZ (if nb then -(x + y) else x + y) (max N M + 1) w) := by
  have c102 : ∀ W, Below w.heap.size w W → Calls Tryz.prog 127 #[.slice A n c, .slice B m d] W (RetMag (x + y) (max N M + 1) W) := fun W hb => plus_any (hx.below hb) (hy.below hb) hN hM
  have c79 := fun (v : Value) (W : World) (h : Mag W v (x + y) (max N M + 1)) => made_any nb v (x + y) (max N M + 1) W h (by omega)
  clear hx hy
  have hB : Below w.heap.size w (((w.alloc (.cells #[.bool nb, .slice A n c] 91)).alloc (.cells #[.bool nb, .slice B m d] 91)).alloc (.cells #[.bool false, .slice none 0 0] 91)) := (((Below.refl _ _).alloc (Nat.le_refl _) _).alloc (by simp) _).alloc (by simp; omega) _
  obtain ⟨W3, hW3⟩ : ∃ W3, W3 = ((w.alloc (.cells #[.bool nb, .slice A n c] 91)).alloc (.cells #[.bool nb, .slice B m d] 91)).alloc (.cells #[.bool false, .slice none 0 0] 91) := ⟨_, rfl⟩
  have hs3 : W3.heap.size = w.heap.size + 1 + 1 + 1 := by rw [hW3]; simp
  have HE : ∀ W, Below (w.heap.size + 1 + 1 + 1) W3 W → W.heap[w.heap.size + 1 + 1]? = some (.cells #[.bool false, .slice none 0 0] 91 (0, 0)) := fun W hb => res_zcell rfl rfl (hW3 ▸ hb)
  rw [← hW3] at hB
  have HB3 := Lib.hid hB
  clear hB
  rcases nb with _ | _
  · go_enter Tryz.func115, Tryz.ntmps115
    go_wp2_with fail
    rw [← hW3]
    have HW := Lib.hid hW3
    clear hW3
    have hbW := Below.refl (w.heap.size + 1 + 1 + 1) W3
    have k0 : W3.cell? ⟨w.heap.size, 0, none⟩ = some (.bool false) := by rw [HW.out]; simp [go_sem]
    have j0 := (hbW.cell (p := ⟨w.heap.size, 0, none⟩) (by show w.heap.size < w.heap.size + 1 + 1 + 1; omega)).trans k0
    have k1 : W3.cell? ⟨w.heap.size, 1, none⟩ = some (.slice A n c) := by rw [HW.out]; simp [go_sem]
    have j1 := (hbW.cell (p := ⟨w.heap.size, 1, none⟩) (by show w.heap.size < w.heap.size + 1 + 1 + 1; omega)).trans k1
    have k2 : W3.cell? ⟨w.heap.size + 1, 1, none⟩ = some (.slice B m d) := by rw [HW.out]; simp [go_sem]
    have j2 := (hbW.cell (p := ⟨w.heap.size + 1, 1, none⟩) (by show w.heap.size + 1 < w.heap.size + 1 + 1 + 1; omega)).trans k2
    refine Lex.wp_region_lex (fun w' => w'.cell? ⟨w.heap.size, 0, none⟩ = some (.bool false) ∧ w'.cell? ⟨w.heap.size, 1, none⟩ = some (.slice A n c) ∧ w'.cell? ⟨w.heap.size + 1, 1, none⟩ = some (.slice B m d)) (fun j => j != 8)
      [(0, true), (1, true), (2, true), (3, true), (4, true), (5, true), (6, false), (7, false), (8, false)]
      (by kernel_rfl) (by kernel_rfl) (by kernel_rfl) (by kernel_rfl) ⟨j0, j1, j2⟩ ?_
    iterate 6 (refine Lex.lex_take (v := ?_) rfl rfl (by rfl) (fun _ hS => ?_) ?_; rotate_left 1; (focus (go_split_ands; go_simp; with_reducible rfl)); simp only [List.setIfInBounds_toArray, List.set_cons_zero, List.set_cons_succ])
    refine Lex.lex_do rfl ?_
    have hb0 : Below (w.heap.size + 1 + 1 + 1) W3 W3.drew := hbW.drew
    generalize W3.drew = V0 at *
    clear hbW j0 j1 j2
    have c := c102 _ (HB3.out.trans (hb0.mono (by omega)))
    clear c102
    go_wp2_with fail
    refine (c).mono ?_
    rintro e V1 ⟨v1, rfl, hm1, hn1⟩
    have hb1 : Below (w.heap.size + 1 + 1 + 1) W3 V1 := hb0.trans (hn1.mono (by have := hb0.size; omega))
    have j0 := (hb1.cell (p := ⟨w.heap.size, 0, none⟩) (by show w.heap.size < w.heap.size + 1 + 1 + 1; omega)).trans k0
    have j1 := (hb1.cell (p := ⟨w.heap.size, 1, none⟩) (by show w.heap.size < w.heap.size + 1 + 1 + 1; omega)).trans k1
    have j2 := (hb1.cell (p := ⟨w.heap.size + 1, 1, none⟩) (by show w.heap.size + 1 < w.heap.size + 1 + 1 + 1; omega)).trans k2
    clear hb0 hn1
    go_wp2_with fail
    refine Lex.lexQ_normal (fun _ => ⟨j0, j1, j2⟩) ?_
    refine Lex.lex_do rfl ?_
    clear j0 j1 j2
    clear c
    have c := c79 _ _ hm1
    clear c79
    go_wp2_with fail
    refine (c).mono ?_
    rintro e V2 ⟨v2, rfl, hm2, hn2⟩
    have hb2 : Below (w.heap.size + 1 + 1 + 1) W3 V2 := hb1.trans (hn2.mono (by have := hb1.size; omega))
    have j0 := (hb2.cell (p := ⟨w.heap.size, 0, none⟩) (by show w.heap.size < w.heap.size + 1 + 1 + 1; omega)).trans k0
    have j1 := (hb2.cell (p := ⟨w.heap.size, 1, none⟩) (by show w.heap.size < w.heap.size + 1 + 1 + 1; omega)).trans k1
    have j2 := (hb2.cell (p := ⟨w.heap.size + 1, 1, none⟩) (by show w.heap.size + 1 < w.heap.size + 1 + 1 + 1; omega)).trans k2
    clear hb1 hn2
    go_wp2_with fail
    refine Lex.lexQ_normal (fun _ => ⟨j0, j1, j2⟩) ?_
    refine Lex.lex_do rfl ?_
    clear j0 j1 j2
    obtain ⟨neg1, A1, n1, c1, m1, rfl, hmm, hzz, hpos1, _, _⟩ := hm2.open'
    have hR := HE _ hb2
    have HST := Lib.hid (hm2.stored (u0 := .bool neg1) (u1 := .slice A1 n1 c1) hR)
    have q0 : V2.cell? ⟨w.heap.size + 1 + 1, 0, none⟩ = some (.bool false) := by simp [World.cell?, hR]
    have f0 : V2.frozen? ⟨w.heap.size + 1 + 1, 0, none⟩ = false := by simp [World.frozen?, hR]
    have q1 : V2.cell? ⟨w.heap.size + 1 + 1, 1, none⟩ = some (.slice none 0 0) := by simp [World.cell?, hR]
    have f1 : V2.frozen? ⟨w.heap.size + 1 + 1, 1, none⟩ = false := by simp [World.frozen?, hR]
    have HB := Lib.hid (HB3.out.trans (hb2.mono (by omega)))
    clear hzz hpos1 hmm hm2 hb2 hR k0 k1 k2
    go_wp2_with fail
    refine Lex.lexQ_normal (fun h => absurd h (by decide)) ?_
    refine Lex.lex_nil ?_
    go_wp2
    refine bodyPost_ret (v := .agg #[.bool neg1, .slice A1 n1 c1]) (by simp [results, Tryz.results115, go_sem, q0, q1]) rfl ⟨_, rfl, HST.out, ?_⟩
    exact (HB.out.setCell (by show w.heap.size ≤ w.heap.size + 1 + 1; omega) _).setCell (by show w.heap.size ≤ w.heap.size + 1 + 1; omega) _
  · go_enter Tryz.func115, Tryz.ntmps115
    go_wp2_with fail
    rw [← hW3]
    have HW := Lib.hid hW3
    clear hW3
    have hbW := Below.refl (w.heap.size + 1 + 1 + 1) W3
    have k0 : W3.cell? ⟨w.heap.size, 0, none⟩ = some (.bool true) := by rw [HW.out]; simp [go_sem]
    have j0 := (hbW.cell (p := ⟨w.heap.size, 0, none⟩) (by show w.heap.size < w.heap.size + 1 + 1 + 1; omega)).trans k0
    have k1 : W3.cell? ⟨w.heap.size, 1, none⟩ = some (.slice A n c) := by rw [HW.out]; simp [go_sem]
    have j1 := (hbW.cell (p := ⟨w.heap.size, 1, none⟩) (by show w.heap.size < w.heap.size + 1 + 1 + 1; omega)).trans k1
    have k2 : W3.cell? ⟨w.heap.size + 1, 1, none⟩ = some (.slice B m d) := by rw [HW.out]; simp [go_sem]
    have j2 := (hbW.cell (p := ⟨w.heap.size + 1, 1, none⟩) (by show w.heap.size + 1 < w.heap.size + 1 + 1 + 1; omega)).trans k2
    refine Lex.wp_region_lex (fun w' => w'.cell? ⟨w.heap.size, 0, none⟩ = some (.bool true) ∧ w'.cell? ⟨w.heap.size, 1, none⟩ = some (.slice A n c) ∧ w'.cell? ⟨w.heap.size + 1, 1, none⟩ = some (.slice B m d)) (fun j => j != 8)
      [(0, true), (1, true), (2, true), (3, true), (4, true), (5, true), (6, false), (7, false), (8, false)]
      (by kernel_rfl) (by kernel_rfl) (by kernel_rfl) (by kernel_rfl) ⟨j0, j1, j2⟩ ?_
    iterate 6 (refine Lex.lex_take (v := ?_) rfl rfl (by rfl) (fun _ hS => ?_) ?_; rotate_left 1; (focus (go_split_ands; go_simp; with_reducible rfl)); simp only [List.setIfInBounds_toArray, List.set_cons_zero, List.set_cons_succ])
    refine Lex.lex_do rfl ?_
    have hb0 : Below (w.heap.size + 1 + 1 + 1) W3 W3.drew := hbW.drew
    generalize W3.drew = V0 at *
    clear hbW j0 j1 j2
    have c := c102 _ (HB3.out.trans (hb0.mono (by omega)))
    clear c102
    go_wp2_with fail
    refine (c).mono ?_
    rintro e V1 ⟨v1, rfl, hm1, hn1⟩
    have hb1 : Below (w.heap.size + 1 + 1 + 1) W3 V1 := hb0.trans (hn1.mono (by have := hb0.size; omega))
    have j0 := (hb1.cell (p := ⟨w.heap.size, 0, none⟩) (by show w.heap.size < w.heap.size + 1 + 1 + 1; omega)).trans k0
    have j1 := (hb1.cell (p := ⟨w.heap.size, 1, none⟩) (by show w.heap.size < w.heap.size + 1 + 1 + 1; omega)).trans k1
    have j2 := (hb1.cell (p := ⟨w.heap.size + 1, 1, none⟩) (by show w.heap.size + 1 < w.heap.size + 1 + 1 + 1; omega)).trans k2
    clear hb0 hn1
    go_wp2_with fail
    refine Lex.lexQ_normal (fun _ => ⟨j0, j1, j2⟩) ?_
    refine Lex.lex_do rfl ?_
    clear j0 j1 j2
    clear c
    have c := c79 _ _ hm1
    clear c79
    go_wp2_with fail
    refine (c).mono ?_
    rintro e V2 ⟨v2, rfl, hm2, hn2⟩
    have hb2 : Below (w.heap.size + 1 + 1 + 1) W3 V2 := hb1.trans (hn2.mono (by have := hb1.size; omega))
    have j0 := (hb2.cell (p := ⟨w.heap.size, 0, none⟩) (by show w.heap.size < w.heap.size + 1 + 1 + 1; omega)).trans k0
    have j1 := (hb2.cell (p := ⟨w.heap.size, 1, none⟩) (by show w.heap.size < w.heap.size + 1 + 1 + 1; omega)).trans k1
    have j2 := (hb2.cell (p := ⟨w.heap.size + 1, 1, none⟩) (by show w.heap.size + 1 < w.heap.size + 1 + 1 + 1; omega)).trans k2
    clear hb1 hn2
    go_wp2_with fail
    refine Lex.lexQ_normal (fun _ => ⟨j0, j1, j2⟩) ?_
    refine Lex.lex_do rfl ?_
    clear j0 j1 j2
    obtain ⟨neg1, A1, n1, c1, m1, rfl, hmm, hzz, hpos1, _, _⟩ := hm2.open'
    have hR := HE _ hb2
    have HST := Lib.hid (hm2.stored (u0 := .bool neg1) (u1 := .slice A1 n1 c1) hR)
    have q0 : V2.cell? ⟨w.heap.size + 1 + 1, 0, none⟩ = some (.bool false) := by simp [World.cell?, hR]
    have f0 : V2.frozen? ⟨w.heap.size + 1 + 1, 0, none⟩ = false := by simp [World.frozen?, hR]
    have q1 : V2.cell? ⟨w.heap.size + 1 + 1, 1, none⟩ = some (.slice none 0 0) := by simp [World.cell?, hR]
    have f1 : V2.frozen? ⟨w.heap.size + 1 + 1, 1, none⟩ = false := by simp [World.frozen?, hR]
    have HB := Lib.hid (HB3.out.trans (hb2.mono (by omega)))
    clear hzz hpos1 hmm hm2 hb2 hR k0 k1 k2
    go_wp2_with fail
    refine Lex.lexQ_normal (fun h => absurd h (by decide)) ?_
    refine Lex.lex_nil ?_
    go_wp2
    refine bodyPost_ret (v := .agg #[.bool neg1, .slice A1 n1 c1]) (by simp [results, Tryz.results115, go_sem, q0, q1]) rfl ⟨_, rfl, HST.out, ?_⟩
    exact (HB.out.setCell (by show w.heap.size ≤ w.heap.size + 1 + 1; omega) _).setCell (by show w.heap.size ≤ w.heap.size + 1 + 1; omega) _

set_option maxRecDepth 100000 in
set_option maxHeartbeats 1600000 in
theorem add_ge (na : Bool) (A : Option Addr) (n c : Nat) (B : Option Addr) (m d : Nat) (x y : Int) (N M : Nat) (w : World) (hx : Mag w (.slice A n c) x N) (hy : Mag w (.slice B m d) y M) (hN : N ≤ 999) (hM : M ≤ 999) (hle : y ≤ x) :
    Calls Tryz.prog 115 #[.agg #[.bool na, .slice A n c], .agg #[.bool (!na), .slice B m d]] w (RetZ (if na then -(x - y) else x - y) (max N M) w) := by
  have c104 : ∀ W, Below w.heap.size w W → Calls Tryz.prog 129 #[.slice A n c, .slice B m d] W (RetMag (x - y) (max N M) W) := fun W hb => (minus_any (hx.below hb) (hy.below hb) hN hle).mono fun e w' ⟨v, h1, h2, h3⟩ => ⟨v, h1, h2.more (by omega), h3⟩
  have c79 := fun (v : Value) (W : World) (h : Mag W v (x - y) (max N M)) => made_any na v (x - y) (max N M) W h (by omega)
  have hB : Below w.heap.size w (((w.alloc (.cells #[.bool na, .slice A n c] 91)).alloc (.cells #[.bool (!na), .slice B m d] 91)).alloc (.cells #[.bool false, .slice none 0 0] 91)) := (((Below.refl _ _).alloc (Nat.le_refl _) _).alloc (by simp) _).alloc (by simp; omega) _
  obtain ⟨W3, hW3⟩ : ∃ W3, W3 = ((w.alloc (.cells #[.bool na, .slice A n c] 91)).alloc (.cells #[.bool (!na), .slice B m d] 91)).alloc (.cells #[.bool false, .slice none 0 0] 91) := ⟨_, rfl⟩
  have hs3 : W3.heap.size = w.heap.size + 1 + 1 + 1 := by rw [hW3]; simp
  have HE : ∀ W, Below (w.heap.size + 1 + 1 + 1) W3 W → W.heap[w.heap.size + 1 + 1]? = some (.cells #[.bool false, .slice none 0 0] 91 (0, 0)) := fun W hb => res_zcell rfl rfl (hW3 ▸ hb)
  rw [← hW3] at hB
  have HB3 := Lib.hid hB
  clear hB
  obtain ⟨sz, hsz, hsz1, hsz2, c⟩ := wsize_mag (hx.below HB3.out) (hy.below HB3.out) hN hM
  have hd : decide (0 ≤ sz) = true := decide_eq_true (by omega)
  rw [hW3] at c
  clear hx hy hsz hle
  rcases na with _ | _
  · go_enter Tryz.func115, Tryz.ntmps115
    go_wp2_with fail
    refine c.mono ?_
    rintro e W ⟨rfl, zz, rfl⟩
    rw [← hW3]
    have hbW : Below (w.heap.size + 1 + 1 + 1) W3 (W3.drewN zz) := ⟨rfl, rfl, rfl, Nat.le_refl _, fun _ _ => rfl⟩
    have HW := Lib.hid hW3
    clear hW3 c
    generalize W3.drewN zz = W4 at *
    go_wp2_with fail
    have k0 : W3.cell? ⟨w.heap.size, 0, none⟩ = some (.bool false) := by rw [HW.out]; simp [go_sem]
    have j0 := (hbW.cell (p := ⟨w.heap.size, 0, none⟩) (by show w.heap.size < w.heap.size + 1 + 1 + 1; omega)).trans k0
    have k1 : W3.cell? ⟨w.heap.size, 1, none⟩ = some (.slice A n c) := by rw [HW.out]; simp [go_sem]
    have j1 := (hbW.cell (p := ⟨w.heap.size, 1, none⟩) (by show w.heap.size < w.heap.size + 1 + 1 + 1; omega)).trans k1
    have k2 : W3.cell? ⟨w.heap.size + 1, 1, none⟩ = some (.slice B m d) := by rw [HW.out]; simp [go_sem]
    have j2 := (hbW.cell (p := ⟨w.heap.size + 1, 1, none⟩) (by show w.heap.size + 1 < w.heap.size + 1 + 1 + 1; omega)).trans k2
    refine Lex.wp_region_lex (fun w' => w'.cell? ⟨w.heap.size, 0, none⟩ = some (.bool false) ∧ w'.cell? ⟨w.heap.size, 1, none⟩ = some (.slice A n c) ∧ w'.cell? ⟨w.heap.size + 1, 1, none⟩ = some (.slice B m d)) (fun j => j != 8)
      [(0, true), (1, true), (2, true), (3, true), (4, true), (5, true), (6, false), (7, false), (8, false)]
      (by kernel_rfl) (by kernel_rfl) (by kernel_rfl) (by kernel_rfl) ⟨j0, j1, j2⟩ ?_
    iterate 6 (refine Lex.lex_take (v := ?_) rfl rfl (by rfl) (fun _ hS => ?_) ?_; rotate_left 1; (focus (go_split_ands; go_simp; with_reducible rfl)); simp only [List.setIfInBounds_toArray, List.set_cons_zero, List.set_cons_succ])
    refine Lex.lex_do rfl ?_
    have hb0 : Below (w.heap.size + 1 + 1 + 1) W3 W4.drew := hbW.drew
    generalize W4.drew = V0 at *
    clear hbW j0 j1 j2
    have c := c104 _ (HB3.out.trans (hb0.mono (by omega)))
    clear c104
    go_wp2_with fail
    refine (c).mono ?_
    rintro e V1 ⟨v1, rfl, hm1, hn1⟩
    have hb1 : Below (w.heap.size + 1 + 1 + 1) W3 V1 := hb0.trans (hn1.mono (by have := hb0.size; omega))
    have j0 := (hb1.cell (p := ⟨w.heap.size, 0, none⟩) (by show w.heap.size < w.heap.size + 1 + 1 + 1; omega)).trans k0
    have j1 := (hb1.cell (p := ⟨w.heap.size, 1, none⟩) (by show w.heap.size < w.heap.size + 1 + 1 + 1; omega)).trans k1
    have j2 := (hb1.cell (p := ⟨w.heap.size + 1, 1, none⟩) (by show w.heap.size + 1 < w.heap.size + 1 + 1 + 1; omega)).trans k2
    clear hb0 hn1
    go_wp2_with fail
    refine Lex.lexQ_normal (fun _ => ⟨j0, j1, j2⟩) ?_
    refine Lex.lex_do rfl ?_
    clear j0 j1 j2
    clear c
    have c := c79 _ _ hm1
    clear c79
    go_wp2_with fail
    refine (c).mono ?_
    rintro e V2 ⟨v2, rfl, hm2, hn2⟩
    have hb2 : Below (w.heap.size + 1 + 1 + 1) W3 V2 := hb1.trans (hn2.mono (by have := hb1.size; omega))
    have j0 := (hb2.cell (p := ⟨w.heap.size, 0, none⟩) (by show w.heap.size < w.heap.size + 1 + 1 + 1; omega)).trans k0
    have j1 := (hb2.cell (p := ⟨w.heap.size, 1, none⟩) (by show w.heap.size < w.heap.size + 1 + 1 + 1; omega)).trans k1
    have j2 := (hb2.cell (p := ⟨w.heap.size + 1, 1, none⟩) (by show w.heap.size + 1 < w.heap.size + 1 + 1 + 1; omega)).trans k2
    clear hb1 hn2
    go_wp2_with fail
    refine Lex.lexQ_normal (fun _ => ⟨j0, j1, j2⟩) ?_
    refine Lex.lex_do rfl ?_
    clear j0 j1 j2
    obtain ⟨neg1, A1, n1, c1, m1, rfl, hmm, hzz, hpos1, _, _⟩ := hm2.open'
    have hR := HE _ hb2
    have HST := Lib.hid (hm2.stored (u0 := .bool neg1) (u1 := .slice A1 n1 c1) hR)
    have q0 : V2.cell? ⟨w.heap.size + 1 + 1, 0, none⟩ = some (.bool false) := by simp [World.cell?, hR]
    have f0 : V2.frozen? ⟨w.heap.size + 1 + 1, 0, none⟩ = false := by simp [World.frozen?, hR]
    have q1 : V2.cell? ⟨w.heap.size + 1 + 1, 1, none⟩ = some (.slice none 0 0) := by simp [World.cell?, hR]
    have f1 : V2.frozen? ⟨w.heap.size + 1 + 1, 1, none⟩ = false := by simp [World.frozen?, hR]
    have HB := Lib.hid (HB3.out.trans (hb2.mono (by omega)))
    clear hzz hpos1 hmm hm2 hb2 hR k0 k1 k2
    go_wp2_with fail
    refine Lex.lexQ_normal (fun h => absurd h (by decide)) ?_
    refine Lex.lex_nil ?_
    go_wp2
    refine bodyPost_ret (v := .agg #[.bool neg1, .slice A1 n1 c1]) (by simp [results, Tryz.results115, go_sem, q0, q1]) rfl ⟨_, rfl, HST.out, ?_⟩
    exact (HB.out.setCell (by show w.heap.size ≤ w.heap.size + 1 + 1; omega) _).setCell (by show w.heap.size ≤ w.heap.size + 1 + 1; omega) _
  · go_enter Tryz.func115, Tryz.ntmps115
    go_wp2_with fail
    refine c.mono ?_
    rintro e W ⟨rfl, zz, rfl⟩
    rw [← hW3]
    have hbW : Below (w.heap.size + 1 + 1 + 1) W3 (W3.drewN zz) := ⟨rfl, rfl, rfl, Nat.le_refl _, fun _ _ => rfl⟩
    have HW := Lib.hid hW3
    clear hW3 c
    generalize W3.drewN zz = W4 at *
    go_wp2_with fail
    have k0 : W3.cell? ⟨w.heap.size, 0, none⟩ = some (.bool true) := by rw [HW.out]; simp [go_sem]
    have j0 := (hbW.cell (p := ⟨w.heap.size, 0, none⟩) (by show w.heap.size < w.heap.size + 1 + 1 + 1; omega)).trans k0
    have k1 : W3.cell? ⟨w.heap.size, 1, none⟩ = some (.slice A n c) := by rw [HW.out]; simp [go_sem]
    have j1 := (hbW.cell (p := ⟨w.heap.size, 1, none⟩) (by show w.heap.size < w.heap.size + 1 + 1 + 1; omega)).trans k1
    have k2 : W3.cell? ⟨w.heap.size + 1, 1, none⟩ = some (.slice B m d) := by rw [HW.out]; simp [go_sem]
    have j2 := (hbW.cell (p := ⟨w.heap.size + 1, 1, none⟩) (by show w.heap.size + 1 < w.heap.size + 1 + 1 + 1; omega)).trans k2
    refine Lex.wp_region_lex (fun w' => w'.cell? ⟨w.heap.size, 0, none⟩ = some (.bool true) ∧ w'.cell? ⟨w.heap.size, 1, none⟩ = some (.slice A n c) ∧ w'.cell? ⟨w.heap.size + 1, 1, none⟩ = some (.slice B m d)) (fun j => j != 8)
      [(0, true), (1, true), (2, true), (3, true), (4, true), (5, true), (6, false), (7, false), (8, false)]
      (by kernel_rfl) (by kernel_rfl) (by kernel_rfl) (by kernel_rfl) ⟨j0, j1, j2⟩ ?_
    iterate 6 (refine Lex.lex_take (v := ?_) rfl rfl (by rfl) (fun _ hS => ?_) ?_; rotate_left 1; (focus (go_split_ands; go_simp; with_reducible rfl)); simp only [List.setIfInBounds_toArray, List.set_cons_zero, List.set_cons_succ])
    refine Lex.lex_do rfl ?_
    have hb0 : Below (w.heap.size + 1 + 1 + 1) W3 W4.drew := hbW.drew
    generalize W4.drew = V0 at *
    clear hbW j0 j1 j2
    have c := c104 _ (HB3.out.trans (hb0.mono (by omega)))
    clear c104
    go_wp2_with fail
    refine (c).mono ?_
    rintro e V1 ⟨v1, rfl, hm1, hn1⟩
    have hb1 : Below (w.heap.size + 1 + 1 + 1) W3 V1 := hb0.trans (hn1.mono (by have := hb0.size; omega))
    have j0 := (hb1.cell (p := ⟨w.heap.size, 0, none⟩) (by show w.heap.size < w.heap.size + 1 + 1 + 1; omega)).trans k0
    have j1 := (hb1.cell (p := ⟨w.heap.size, 1, none⟩) (by show w.heap.size < w.heap.size + 1 + 1 + 1; omega)).trans k1
    have j2 := (hb1.cell (p := ⟨w.heap.size + 1, 1, none⟩) (by show w.heap.size + 1 < w.heap.size + 1 + 1 + 1; omega)).trans k2
    clear hb0 hn1
    go_wp2_with fail
    refine Lex.lexQ_normal (fun _ => ⟨j0, j1, j2⟩) ?_
    refine Lex.lex_do rfl ?_
    clear j0 j1 j2
    clear c
    have c := c79 _ _ hm1
    clear c79
    go_wp2_with fail
    refine (c).mono ?_
    rintro e V2 ⟨v2, rfl, hm2, hn2⟩
    have hb2 : Below (w.heap.size + 1 + 1 + 1) W3 V2 := hb1.trans (hn2.mono (by have := hb1.size; omega))
    have j0 := (hb2.cell (p := ⟨w.heap.size, 0, none⟩) (by show w.heap.size < w.heap.size + 1 + 1 + 1; omega)).trans k0
    have j1 := (hb2.cell (p := ⟨w.heap.size, 1, none⟩) (by show w.heap.size < w.heap.size + 1 + 1 + 1; omega)).trans k1
    have j2 := (hb2.cell (p := ⟨w.heap.size + 1, 1, none⟩) (by show w.heap.size + 1 < w.heap.size + 1 + 1 + 1; omega)).trans k2
    clear hb1 hn2
    go_wp2_with fail
    refine Lex.lexQ_normal (fun _ => ⟨j0, j1, j2⟩) ?_
    refine Lex.lex_do rfl ?_
    clear j0 j1 j2
    obtain ⟨neg1, A1, n1, c1, m1, rfl, hmm, hzz, hpos1, _, _⟩ := hm2.open'
    have hR := HE _ hb2
    have HST := Lib.hid (hm2.stored (u0 := .bool neg1) (u1 := .slice A1 n1 c1) hR)
    have q0 : V2.cell? ⟨w.heap.size + 1 + 1, 0, none⟩ = some (.bool false) := by simp [World.cell?, hR]
    have f0 : V2.frozen? ⟨w.heap.size + 1 + 1, 0, none⟩ = false := by simp [World.frozen?, hR]
    have q1 : V2.cell? ⟨w.heap.size + 1 + 1, 1, none⟩ = some (.slice none 0 0) := by simp [World.cell?, hR]
    have f1 : V2.frozen? ⟨w.heap.size + 1 + 1, 1, none⟩ = false := by simp [World.frozen?, hR]
    have HB := Lib.hid (HB3.out.trans (hb2.mono (by omega)))
    clear hzz hpos1 hmm hm2 hb2 hR k0 k1 k2
    go_wp2_with fail
    refine Lex.lexQ_normal (fun h => absurd h (by decide)) ?_
    refine Lex.lex_nil ?_
    go_wp2
    refine bodyPost_ret (v := .agg #[.bool neg1, .slice A1 n1 c1]) (by simp [results, Tryz.results115, go_sem, q0, q1]) rfl ⟨_, rfl, HST.out, ?_⟩
    exact (HB.out.setCell (by show w.heap.size ≤ w.heap.size + 1 + 1; omega) _).setCell (by show w.heap.size ≤ w.heap.size + 1 + 1; omega) _

set_option maxRecDepth 100000 in
set_option maxHeartbeats 1600000 in
theorem add_lt (na : Bool) (A : Option Addr) (n c : Nat) (B : Option Addr) (m d : Nat) (x y : Int) (N M : Nat) (w : World) (hx : Mag w (.slice A n c) x N) (hy : Mag w (.slice B m d) y M) (hN : N ≤ 999) (hM : M ≤ 999) (hle : x < y) :
    Calls Tryz.prog 115 #[.agg #[.bool na, .slice A n c], .agg #[.bool (!na), .slice B m d]] w (RetZ (if na then y - x else -(y - x)) (max N M) w) := by
  have c104 : ∀ W, Below w.heap.size w W → Calls Tryz.prog 129 #[.slice B m d, .slice A n c] W (RetMag (y - x) (max N M) W) := fun W hb => (minus_any (hy.below hb) (hx.below hb) hM (by omega)).mono fun e w' ⟨v, h1, h2, h3⟩ => ⟨v, h1, h2.more (by omega), h3⟩
  have c79 := fun (v : Value) (W : World) (h : Mag W v (y - x) (max N M)) => made_any (!na) v (y - x) (max N M) W h (by omega)
  have hB : Below w.heap.size w (((w.alloc (.cells #[.bool na, .slice A n c] 91)).alloc (.cells #[.bool (!na), .slice B m d] 91)).alloc (.cells #[.bool false, .slice none 0 0] 91)) := (((Below.refl _ _).alloc (Nat.le_refl _) _).alloc (by simp) _).alloc (by simp; omega) _
  obtain ⟨W3, hW3⟩ : ∃ W3, W3 = ((w.alloc (.cells #[.bool na, .slice A n c] 91)).alloc (.cells #[.bool (!na), .slice B m d] 91)).alloc (.cells #[.bool false, .slice none 0 0] 91) := ⟨_, rfl⟩
  have hs3 : W3.heap.size = w.heap.size + 1 + 1 + 1 := by rw [hW3]; simp
  have HE : ∀ W, Below (w.heap.size + 1 + 1 + 1) W3 W → W.heap[w.heap.size + 1 + 1]? = some (.cells #[.bool false, .slice none 0 0] 91 (0, 0)) := fun W hb => res_zcell rfl rfl (hW3 ▸ hb)
  rw [← hW3] at hB
  have HB3 := Lib.hid hB
  clear hB
  obtain ⟨sz, hsz, hsz1, hsz2, c⟩ := wsize_mag (hx.below HB3.out) (hy.below HB3.out) hN hM
  have hd : decide (0 ≤ sz) = false := decide_eq_false (by omega)
  rw [hW3] at c
  clear hx hy hsz hle
  rcases na with _ | _
  · go_enter Tryz.func115, Tryz.ntmps115
    go_wp2_with fail
    refine c.mono ?_
    rintro e W ⟨rfl, zz, rfl⟩
    rw [← hW3]
    have hbW : Below (w.heap.size + 1 + 1 + 1) W3 (W3.drewN zz) := ⟨rfl, rfl, rfl, Nat.le_refl _, fun _ _ => rfl⟩
    have HW := Lib.hid hW3
    clear hW3 c
    generalize W3.drewN zz = W4 at *
    go_wp2_with fail
    have k0 : W3.cell? ⟨w.heap.size + 1, 0, none⟩ = some (.bool true) := by rw [HW.out]; simp [go_sem]
    have j0 := (hbW.cell (p := ⟨w.heap.size + 1, 0, none⟩) (by show w.heap.size + 1 < w.heap.size + 1 + 1 + 1; omega)).trans k0
    have k1 : W3.cell? ⟨w.heap.size + 1, 1, none⟩ = some (.slice B m d) := by rw [HW.out]; simp [go_sem]
    have j1 := (hbW.cell (p := ⟨w.heap.size + 1, 1, none⟩) (by show w.heap.size + 1 < w.heap.size + 1 + 1 + 1; omega)).trans k1
    have k2 : W3.cell? ⟨w.heap.size, 1, none⟩ = some (.slice A n c) := by rw [HW.out]; simp [go_sem]
    have j2 := (hbW.cell (p := ⟨w.heap.size, 1, none⟩) (by show w.heap.size < w.heap.size + 1 + 1 + 1; omega)).trans k2
    refine Lex.wp_region_lex (fun w' => w'.cell? ⟨w.heap.size + 1, 0, none⟩ = some (.bool true) ∧ w'.cell? ⟨w.heap.size + 1, 1, none⟩ = some (.slice B m d) ∧ w'.cell? ⟨w.heap.size, 1, none⟩ = some (.slice A n c)) (fun j => j != 8)
      [(0, true), (1, true), (2, true), (3, true), (4, true), (5, true), (6, false), (7, false), (8, false)]
      (by kernel_rfl) (by kernel_rfl) (by kernel_rfl) (by kernel_rfl) ⟨j0, j1, j2⟩ ?_
    iterate 6 (refine Lex.lex_take (v := ?_) rfl rfl (by rfl) (fun _ hS => ?_) ?_; rotate_left 1; (focus (go_split_ands; go_simp; with_reducible rfl)); simp only [List.setIfInBounds_toArray, List.set_cons_zero, List.set_cons_succ])
    refine Lex.lex_do rfl ?_
    have hb0 : Below (w.heap.size + 1 + 1 + 1) W3 W4.drew := hbW.drew
    generalize W4.drew = V0 at *
    clear hbW j0 j1 j2
    have c := c104 _ (HB3.out.trans (hb0.mono (by omega)))
    clear c104
    go_wp2_with fail
    refine (c).mono ?_
    rintro e V1 ⟨v1, rfl, hm1, hn1⟩
    have hb1 : Below (w.heap.size + 1 + 1 + 1) W3 V1 := hb0.trans (hn1.mono (by have := hb0.size; omega))
    have j0 := (hb1.cell (p := ⟨w.heap.size + 1, 0, none⟩) (by show w.heap.size + 1 < w.heap.size + 1 + 1 + 1; omega)).trans k0
    have j1 := (hb1.cell (p := ⟨w.heap.size + 1, 1, none⟩) (by show w.heap.size + 1 < w.heap.size + 1 + 1 + 1; omega)).trans k1
    have j2 := (hb1.cell (p := ⟨w.heap.size, 1, none⟩) (by show w.heap.size < w.heap.size + 1 + 1 + 1; omega)).trans k2
    clear hb0 hn1
    go_wp2_with fail
    refine Lex.lexQ_normal (fun _ => ⟨j0, j1, j2⟩) ?_
    refine Lex.lex_do rfl ?_
    clear j0 j1 j2
    clear c
    have c := c79 _ _ hm1
    clear c79
    go_wp2_with fail
    refine (c).mono ?_
    rintro e V2 ⟨v2, rfl, hm2, hn2⟩
    have hb2 : Below (w.heap.size + 1 + 1 + 1) W3 V2 := hb1.trans (hn2.mono (by have := hb1.size; omega))
    have j0 := (hb2.cell (p := ⟨w.heap.size + 1, 0, none⟩) (by show w.heap.size + 1 < w.heap.size + 1 + 1 + 1; omega)).trans k0
    have j1 := (hb2.cell (p := ⟨w.heap.size + 1, 1, none⟩) (by show w.heap.size + 1 < w.heap.size + 1 + 1 + 1; omega)).trans k1
    have j2 := (hb2.cell (p := ⟨w.heap.size, 1, none⟩) (by show w.heap.size < w.heap.size + 1 + 1 + 1; omega)).trans k2
    clear hb1 hn2
    go_wp2_with fail
    refine Lex.lexQ_normal (fun _ => ⟨j0, j1, j2⟩) ?_
    refine Lex.lex_do rfl ?_
    clear j0 j1 j2
    obtain ⟨neg1, A1, n1, c1, m1, rfl, hmm, hzz, hpos1, _, _⟩ := hm2.open'
    have hR := HE _ hb2
    have HST := Lib.hid (hm2.stored (u0 := .bool neg1) (u1 := .slice A1 n1 c1) hR)
    have q0 : V2.cell? ⟨w.heap.size + 1 + 1, 0, none⟩ = some (.bool false) := by simp [World.cell?, hR]
    have f0 : V2.frozen? ⟨w.heap.size + 1 + 1, 0, none⟩ = false := by simp [World.frozen?, hR]
    have q1 : V2.cell? ⟨w.heap.size + 1 + 1, 1, none⟩ = some (.slice none 0 0) := by simp [World.cell?, hR]
    have f1 : V2.frozen? ⟨w.heap.size + 1 + 1, 1, none⟩ = false := by simp [World.frozen?, hR]
    have HB := Lib.hid (HB3.out.trans (hb2.mono (by omega)))
    clear hzz hpos1 hmm hm2 hb2 hR k0 k1 k2
    go_wp2_with fail
    refine Lex.lexQ_normal (fun h => absurd h (by decide)) ?_
    refine Lex.lex_nil ?_
    go_wp2
    refine bodyPost_ret (v := .agg #[.bool neg1, .slice A1 n1 c1]) (by simp [results, Tryz.results115, go_sem, q0, q1]) rfl ⟨_, rfl, HST.out, ?_⟩
    exact (HB.out.setCell (by show w.heap.size ≤ w.heap.size + 1 + 1; omega) _).setCell (by show w.heap.size ≤ w.heap.size + 1 + 1; omega) _
  · go_enter Tryz.func115, Tryz.ntmps115
    go_wp2_with fail
    refine c.mono ?_
    rintro e W ⟨rfl, zz, rfl⟩
    rw [← hW3]
    have hbW : Below (w.heap.size + 1 + 1 + 1) W3 (W3.drewN zz) := ⟨rfl, rfl, rfl, Nat.le_refl _, fun _ _ => rfl⟩
    have HW := Lib.hid hW3
    clear hW3 c
    generalize W3.drewN zz = W4 at *
    go_wp2_with fail
    have k0 : W3.cell? ⟨w.heap.size + 1, 0, none⟩ = some (.bool false) := by rw [HW.out]; simp [go_sem]
    have j0 := (hbW.cell (p := ⟨w.heap.size + 1, 0, none⟩) (by show w.heap.size + 1 < w.heap.size + 1 + 1 + 1; omega)).trans k0
    have k1 : W3.cell? ⟨w.heap.size + 1, 1, none⟩ = some (.slice B m d) := by rw [HW.out]; simp [go_sem]
    have j1 := (hbW.cell (p := ⟨w.heap.size + 1, 1, none⟩) (by show w.heap.size + 1 < w.heap.size + 1 + 1 + 1; omega)).trans k1
    have k2 : W3.cell? ⟨w.heap.size, 1, none⟩ = some (.slice A n c) := by rw [HW.out]; simp [go_sem]
    have j2 := (hbW.cell (p := ⟨w.heap.size, 1, none⟩) (by show w.heap.size < w.heap.size + 1 + 1 + 1; omega)).trans k2
    refine Lex.wp_region_lex (fun w' => w'.cell? ⟨w.heap.size + 1, 0, none⟩ = some (.bool false) ∧ w'.cell? ⟨w.heap.size + 1, 1, none⟩ = some (.slice B m d) ∧ w'.cell? ⟨w.heap.size, 1, none⟩ = some (.slice A n c)) (fun j => j != 8)
      [(0, true), (1, true), (2, true), (3, true), (4, true), (5, true), (6, false), (7, false), (8, false)]
      (by kernel_rfl) (by kernel_rfl) (by kernel_rfl) (by kernel_rfl) ⟨j0, j1, j2⟩ ?_
    iterate 6 (refine Lex.lex_take (v := ?_) rfl rfl (by rfl) (fun _ hS => ?_) ?_; rotate_left 1; (focus (go_split_ands; go_simp; with_reducible rfl)); simp only [List.setIfInBounds_toArray, List.set_cons_zero, List.set_cons_succ])
    refine Lex.lex_do rfl ?_
    have hb0 : Below (w.heap.size + 1 + 1 + 1) W3 W4.drew := hbW.drew
    generalize W4.drew = V0 at *
    clear hbW j0 j1 j2
    have c := c104 _ (HB3.out.trans (hb0.mono (by omega)))
    clear c104
    go_wp2_with fail
    refine (c).mono ?_
    rintro e V1 ⟨v1, rfl, hm1, hn1⟩
    have hb1 : Below (w.heap.size + 1 + 1 + 1) W3 V1 := hb0.trans (hn1.mono (by have := hb0.size; omega))
    have j0 := (hb1.cell (p := ⟨w.heap.size + 1, 0, none⟩) (by show w.heap.size + 1 < w.heap.size + 1 + 1 + 1; omega)).trans k0
    have j1 := (hb1.cell (p := ⟨w.heap.size + 1, 1, none⟩) (by show w.heap.size + 1 < w.heap.size + 1 + 1 + 1; omega)).trans k1
    have j2 := (hb1.cell (p := ⟨w.heap.size, 1, none⟩) (by show w.heap.size < w.heap.size + 1 + 1 + 1; omega)).trans k2
    clear hb0 hn1
    go_wp2_with fail
    refine Lex.lexQ_normal (fun _ => ⟨j0, j1, j2⟩) ?_
    refine Lex.lex_do rfl ?_
    clear j0 j1 j2
    clear c
    have c := c79 _ _ hm1
    clear c79
    go_wp2_with fail
    refine (c).mono ?_
    rintro e V2 ⟨v2, rfl, hm2, hn2⟩
    have hb2 : Below (w.heap.size + 1 + 1 + 1) W3 V2 := hb1.trans (hn2.mono (by have := hb1.size; omega))
    have j0 := (hb2.cell (p := ⟨w.heap.size + 1, 0, none⟩) (by show w.heap.size + 1 < w.heap.size + 1 + 1 + 1; omega)).trans k0
    have j1 := (hb2.cell (p := ⟨w.heap.size + 1, 1, none⟩) (by show w.heap.size + 1 < w.heap.size + 1 + 1 + 1; omega)).trans k1
    have j2 := (hb2.cell (p := ⟨w.heap.size, 1, none⟩) (by show w.heap.size < w.heap.size + 1 + 1 + 1; omega)).trans k2
    clear hb1 hn2
    go_wp2_with fail
    refine Lex.lexQ_normal (fun _ => ⟨j0, j1, j2⟩) ?_
    refine Lex.lex_do rfl ?_
    clear j0 j1 j2
    obtain ⟨neg1, A1, n1, c1, m1, rfl, hmm, hzz, hpos1, _, _⟩ := hm2.open'
    have hR := HE _ hb2
    have HST := Lib.hid (hm2.stored (u0 := .bool neg1) (u1 := .slice A1 n1 c1) hR)
    have q0 : V2.cell? ⟨w.heap.size + 1 + 1, 0, none⟩ = some (.bool false) := by simp [World.cell?, hR]
    have f0 : V2.frozen? ⟨w.heap.size + 1 + 1, 0, none⟩ = false := by simp [World.frozen?, hR]
    have q1 : V2.cell? ⟨w.heap.size + 1 + 1, 1, none⟩ = some (.slice none 0 0) := by simp [World.cell?, hR]
    have f1 : V2.frozen? ⟨w.heap.size + 1 + 1, 1, none⟩ = false := by simp [World.frozen?, hR]
    have HB := Lib.hid (HB3.out.trans (hb2.mono (by omega)))
    clear hzz hpos1 hmm hm2 hb2 hR k0 k1 k2
    go_wp2_with fail
    refine Lex.lexQ_normal (fun h => absurd h (by decide)) ?_
    refine Lex.lex_nil ?_
    go_wp2
    refine bodyPost_ret (v := .agg #[.bool neg1, .slice A1 n1 c1]) (by simp [results, Tryz.results115, go_sem, q0, q1]) rfl ⟨_, rfl, HST.out, ?_⟩
    exact (HB.out.setCell (by show w.heap.size ≤ w.heap.size + 1 + 1; omega) _).setCell (by show w.heap.size ≤ w.heap.size + 1 + 1; omega) _

end Go.Proofs.YtklngjjokbhfpaaGreatDoor
