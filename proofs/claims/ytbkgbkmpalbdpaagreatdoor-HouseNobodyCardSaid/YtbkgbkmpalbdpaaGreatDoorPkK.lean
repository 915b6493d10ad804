/- Texts K L N in one. -/
import Derived.Test.YtbkgbkmpalbdpaaGreatDoorPkH
namespace Go.Proofs.YtbkgbkmpalbdpaaGreatDoor.G
open Go.RowKit

theorem add_any {w : World} {u v : Value} {x y : Int} {N M : Nat} (hu : IsZ w u x N) (hv : IsZ w v y M) (hN : N ≤ 999) (hM : M ≤ 999) :
    Calls Tryz.prog 333 #[u, v] w (RetZ (x + y) (max N M + 1) w) := by
  obtain ⟨na, A, n, c, a, rfl, ha, hx, _, _⟩ := hu.open'
  obtain ⟨nb, B, m, d, b, rfl, hb, hy, _, _⟩ := hv.open'
  by_cases hab : nb = na
  · subst hab
    have h := add_same nb A n c B m d a b N M w ha hb hN hM
    have e : (if nb then -(a + b) else a + b) = x + y := by rw [hx, hy]; cases nb <;> simp <;> omega
    rwa [e] at h
  · have hnb : nb = !na := by cases na <;> cases nb <;> simp_all
    subst hnb
    by_cases hle : b ≤ a
    · have h := add_ge na A n c B m d a b N M w ha hb hN hM hle
      have e : (if na then -(a - b) else a - b) = x + y := by rw [hx, hy]; cases na <;> simp <;> omega
      rw [e] at h
      exact h.mono fun e w' ⟨v, h1, h2, h3⟩ => ⟨v, h1, h2.more (by omega), h3⟩
    · have h := add_lt na A n c B m d a b N M w ha hb hN hM (by omega)
      have e : (if na then b - a else -(b - a)) = x + y := by rw [hx, hy]; cases na <;> simp <;> omega
      rw [e] at h
      exact h.mono fun e w' ⟨v, h1, h2, h3⟩ => ⟨v, h1, h2.more (by omega), h3⟩

set_option maxRecDepth 100000 in
set_option maxHeartbeats 1600000 in
theorem sub_any {w : World} {u v : Value} {x y : Int} {N M : Nat} (hu : IsZ w u x N) (hv : IsZ w v y M) (hN : N ≤ 999) (hM : M ≤ 999) :
    Calls Tryz.prog 433 #[u, v] w (RetZ (x - y) (max N M + 1) w) := by
  have c98 : ∀ W, Below w.heap.size w W → Calls Tryz.prog 331 #[v] W (RetZ (-y) M W) := fun W hb => neg_any v y M W (hv.below hb) (by omega)
  have c76 : ∀ W v1, Below w.heap.size w W → IsZ W v1 (-y) M → Calls Tryz.prog 333 #[u, v1] W (RetZ (x - y) (max N M + 1) W) := fun W v1 hb h1 => add_any (hu.below hb) h1 hN hM
  obtain ⟨na, A, n, c, a, rfl, -, -, -, -⟩ := hu.open'
  obtain ⟨nb, B, m, d, b, rfl, -, -, -, -⟩ := hv.open'
  clear hu hv
  have hB : Below w.heap.size w (((w.alloc (.cells #[.bool na, .slice A n c] 348)).alloc (.cells #[.bool nb, .slice B m d] 348)).alloc (.cells #[.bool false, .slice none 0 0] 348)) := (((Below.refl _ _).alloc (Nat.le_refl _) _).alloc (by simp) _).alloc (by simp; omega) _
  obtain ⟨W3, hW3⟩ : ∃ W3, W3 = ((w.alloc (.cells #[.bool na, .slice A n c] 348)).alloc (.cells #[.bool nb, .slice B m d] 348)).alloc (.cells #[.bool false, .slice none 0 0] 348) := ⟨_, rfl⟩
  have hs3 : W3.heap.size = w.heap.size + 1 + 1 + 1 := by rw [hW3]; simp
  have HE : ∀ W, Below (w.heap.size + 1 + 1 + 1) W3 W → W.heap[w.heap.size + 1 + 1]? = some (.cells #[.bool false, .slice none 0 0] 348 (0, 0)) := fun W hb => res_zcell rfl rfl (hW3 ▸ hb)
  rw [← hW3] at hB
  have HB3 := Lib.hid hB
  clear hB
  rcases na with _ | _ <;> rcases nb with _ | _
  · skip
    go_enter Tryz.func433, Tryz.ntmps433
    go_wp2_with fail
    rw [← hW3]
    have HW := Lib.hid hW3
    clear hW3
    have hbW := Below.refl (w.heap.size + 1 + 1 + 1) W3
    have k0 : W3.cell? ⟨w.heap.size, 0, none⟩ = some (.bool false) := by rw [HW.out]; simp [go_sem]
    have j0 := (hbW.cell (p := ⟨w.heap.size, 0, none⟩) (by show w.heap.size < w.heap.size + 1 + 1 + 1; omega)).trans k0
    have k1 : W3.cell? ⟨w.heap.size, 1, none⟩ = some (.slice A n c) := by rw [HW.out]; simp [go_sem]
    have j1 := (hbW.cell (p := ⟨w.heap.size, 1, none⟩) (by show w.heap.size < w.heap.size + 1 + 1 + 1; omega)).trans k1
    have k2 : W3.cell? ⟨w.heap.size + 1, 0, none⟩ = some (.bool false) := by rw [HW.out]; simp [go_sem]
    have j2 := (hbW.cell (p := ⟨w.heap.size + 1, 0, none⟩) (by show w.heap.size + 1 < w.heap.size + 1 + 1 + 1; omega)).trans k2
    have k3 : W3.cell? ⟨w.heap.size + 1, 1, none⟩ = some (.slice B m d) := by rw [HW.out]; simp [go_sem]
    have j3 := (hbW.cell (p := ⟨w.heap.size + 1, 1, none⟩) (by show w.heap.size + 1 < w.heap.size + 1 + 1 + 1; omega)).trans k3
    refine Lex.wp_region_lex (fun w' => w'.cell? ⟨w.heap.size, 0, none⟩ = some (.bool false) ∧ w'.cell? ⟨w.heap.size, 1, none⟩ = some (.slice A n c) ∧ w'.cell? ⟨w.heap.size + 1, 0, none⟩ = some (.bool false) ∧ w'.cell? ⟨w.heap.size + 1, 1, none⟩ = some (.slice B m d)) (fun j => j != 4)
      [(0, true), (1, true), (2, false), (3, false), (4, false)]
      (by kernel_rfl) (by kernel_rfl) (by kernel_rfl) (by kernel_rfl) ⟨j0, j1, j2, j3⟩ ?_
    iterate 2 (refine Lex.lex_take (v := ?_) rfl rfl (by rfl) (fun _ hS => ?_) ?_; rotate_left 1; (focus (go_split_ands; go_simp; with_reducible rfl)); simp only [List.setIfInBounds_toArray, List.set_cons_zero, List.set_cons_succ])
    refine Lex.lex_do rfl ?_
    have hb0 : Below (w.heap.size + 1 + 1 + 1) W3 W3.drew := hbW.drew
    generalize W3.drew = V0 at *
    clear hbW j0 j1 j2 j3
    replace c98 := c98 _ (HB3.out.trans (hb0.mono (by omega)))
    go_wp2_with fail
    refine (c98).mono ?_
    rintro e V1 ⟨v1, rfl, hm1, hn1⟩
    have hb1 : Below (w.heap.size + 1 + 1 + 1) W3 V1 := hb0.trans (hn1.mono (by have := hb0.size; omega))
    have j0 := (hb1.cell (p := ⟨w.heap.size, 0, none⟩) (by show w.heap.size < w.heap.size + 1 + 1 + 1; omega)).trans k0
    have j1 := (hb1.cell (p := ⟨w.heap.size, 1, none⟩) (by show w.heap.size < w.heap.size + 1 + 1 + 1; omega)).trans k1
    have j2 := (hb1.cell (p := ⟨w.heap.size + 1, 0, none⟩) (by show w.heap.size + 1 < w.heap.size + 1 + 1 + 1; omega)).trans k2
    have j3 := (hb1.cell (p := ⟨w.heap.size + 1, 1, none⟩) (by show w.heap.size + 1 < w.heap.size + 1 + 1 + 1; omega)).trans k3
    clear hb0 hn1
    go_wp2_with fail
    refine Lex.lexQ_normal (fun _ => ⟨j0, j1, j2, j3⟩) ?_
    refine Lex.lex_do rfl ?_
    clear j0 j1 j2 j3
    clear c98
    replace c76 := c76 _ _ (HB3.out.trans (hb1.mono (by omega))) hm1
    go_wp2_with fail
    refine (c76).mono ?_
    rintro e V2 ⟨v2, rfl, hm2, hn2⟩
    have hb2 : Below (w.heap.size + 1 + 1 + 1) W3 V2 := hb1.trans (hn2.mono (by have := hb1.size; omega))
    have j0 := (hb2.cell (p := ⟨w.heap.size, 0, none⟩) (by show w.heap.size < w.heap.size + 1 + 1 + 1; omega)).trans k0
    have j1 := (hb2.cell (p := ⟨w.heap.size, 1, none⟩) (by show w.heap.size < w.heap.size + 1 + 1 + 1; omega)).trans k1
    have j2 := (hb2.cell (p := ⟨w.heap.size + 1, 0, none⟩) (by show w.heap.size + 1 < w.heap.size + 1 + 1 + 1; omega)).trans k2
    have j3 := (hb2.cell (p := ⟨w.heap.size + 1, 1, none⟩) (by show w.heap.size + 1 < w.heap.size + 1 + 1 + 1; omega)).trans k3
    clear hb1 hn2
    go_wp2_with fail
    refine Lex.lexQ_normal (fun _ => ⟨j0, j1, j2, j3⟩) ?_
    refine Lex.lex_do rfl ?_
    clear j0 j1 j2 j3
    obtain ⟨neg1, A1, n1, c1, m1, rfl, hmm, hzz, hpos1, _, _⟩ := hm2.open'
    have hR := HE _ hb2
    have HST := Lib.hid (hm2.stored (u0 := .bool neg1) (u1 := .slice A1 n1 c1) hR)
    have q0 : V2.cell? ⟨w.heap.size + 1 + 1, 0, none⟩ = some (.bool false) := by simp [World.cell?, hR]
    have f0 : V2.frozen? ⟨w.heap.size + 1 + 1, 0, none⟩ = false := by simp [World.frozen?, hR]
    have q1 : V2.cell? ⟨w.heap.size + 1 + 1, 1, none⟩ = some (.slice none 0 0) := by simp [World.cell?, hR]
    have f1 : V2.frozen? ⟨w.heap.size + 1 + 1, 1, none⟩ = false := by simp [World.frozen?, hR]
    have HB := Lib.hid (HB3.out.trans (hb2.mono (by omega)))
    clear hzz hpos1 hmm hm2 hb2 hR k0 k1 k2 k3
    go_wp2_with fail
    refine Lex.lexQ_normal (fun h => absurd h (by decide)) ?_
    refine Lex.lex_nil ?_
    go_wp2
    refine bodyPost_ret (v := .agg #[.bool neg1, .slice A1 n1 c1]) (by simp [results, Tryz.results433, go_sem, q0, q1]) rfl ⟨_, rfl, HST.out, ?_⟩
    exact (HB.out.setCell (by show w.heap.size ≤ w.heap.size + 1 + 1; omega) _).setCell (by show w.heap.size ≤ w.heap.size + 1 + 1; omega) _
  · skip
    go_enter Tryz.func433, Tryz.ntmps433
    go_wp2_with fail
    rw [← hW3]
    have HW := Lib.hid hW3
    clear hW3
    have hbW := Below.refl (w.heap.size + 1 + 1 + 1) W3
    have k0 : W3.cell? ⟨w.heap.size, 0, none⟩ = some (.bool false) := by rw [HW.out]; simp [go_sem]
    have j0 := (hbW.cell (p := ⟨w.heap.size, 0, none⟩) (by show w.heap.size < w.heap.size + 1 + 1 + 1; omega)).trans k0
    have k1 : W3.cell? ⟨w.heap.size, 1, none⟩ = some (.slice A n c) := by rw [HW.out]; simp [go_sem]
    have j1 := (hbW.cell (p := ⟨w.heap.size, 1, none⟩) (by show w.heap.size < w.heap.size + 1 + 1 + 1; omega)).trans k1
    have k2 : W3.cell? ⟨w.heap.size + 1, 0, none⟩ = some (.bool true) := by rw [HW.out]; simp [go_sem]
    have j2 := (hbW.cell (p := ⟨w.heap.size + 1, 0, none⟩) (by show w.heap.size + 1 < w.heap.size + 1 + 1 + 1; omega)).trans k2
    have k3 : W3.cell? ⟨w.heap.size + 1, 1, none⟩ = some (.slice B m d) := by rw [HW.out]; simp [go_sem]
    have j3 := (hbW.cell (p := ⟨w.heap.size + 1, 1, none⟩) (by show w.heap.size + 1 < w.heap.size + 1 + 1 + 1; omega)).trans k3
    refine Lex.wp_region_lex (fun w' => w'.cell? ⟨w.heap.size, 0, none⟩ = some (.bool false) ∧ w'.cell? ⟨w.heap.size, 1, none⟩ = some (.slice A n c) ∧ w'.cell? ⟨w.heap.size + 1, 0, none⟩ = some (.bool true) ∧ w'.cell? ⟨w.heap.size + 1, 1, none⟩ = some (.slice B m d)) (fun j => j != 4)
      [(0, true), (1, true), (2, false), (3, false), (4, false)]
      (by kernel_rfl) (by kernel_rfl) (by kernel_rfl) (by kernel_rfl) ⟨j0, j1, j2, j3⟩ ?_
    iterate 2 (refine Lex.lex_take (v := ?_) rfl rfl (by rfl) (fun _ hS => ?_) ?_; rotate_left 1; (focus (go_split_ands; go_simp; with_reducible rfl)); simp only [List.setIfInBounds_toArray, List.set_cons_zero, List.set_cons_succ])
    refine Lex.lex_do rfl ?_
    have hb0 : Below (w.heap.size + 1 + 1 + 1) W3 W3.drew := hbW.drew
    generalize W3.drew = V0 at *
    clear hbW j0 j1 j2 j3
    replace c98 := c98 _ (HB3.out.trans (hb0.mono (by omega)))
    go_wp2_with fail
    refine (c98).mono ?_
    rintro e V1 ⟨v1, rfl, hm1, hn1⟩
    have hb1 : Below (w.heap.size + 1 + 1 + 1) W3 V1 := hb0.trans (hn1.mono (by have := hb0.size; omega))
    have j0 := (hb1.cell (p := ⟨w.heap.size, 0, none⟩) (by show w.heap.size < w.heap.size + 1 + 1 + 1; omega)).trans k0
    have j1 := (hb1.cell (p := ⟨w.heap.size, 1, none⟩) (by show w.heap.size < w.heap.size + 1 + 1 + 1; omega)).trans k1
    have j2 := (hb1.cell (p := ⟨w.heap.size + 1, 0, none⟩) (by show w.heap.size + 1 < w.heap.size + 1 + 1 + 1; omega)).trans k2
    have j3 := (hb1.cell (p := ⟨w.heap.size + 1, 1, none⟩) (by show w.heap.size + 1 < w.heap.size + 1 + 1 + 1; omega)).trans k3
    clear hb0 hn1
    go_wp2_with fail
    refine Lex.lexQ_normal (fun _ => ⟨j0, j1, j2, j3⟩) ?_
    refine Lex.lex_do rfl ?_
    clear j0 j1 j2 j3
    clear c98
    replace c76 := c76 _ _ (HB3.out.trans (hb1.mono (by omega))) hm1
    go_wp2_with fail
    refine (c76).mono ?_
    rintro e V2 ⟨v2, rfl, hm2, hn2⟩
    have hb2 : Below (w.heap.size + 1 + 1 + 1) W3 V2 := hb1.trans (hn2.mono (by have := hb1.size; omega))
    have j0 := (hb2.cell (p := ⟨w.heap.size, 0, none⟩) (by show w.heap.size < w.heap.size + 1 + 1 + 1; omega)).trans k0
    have j1 := (hb2.cell (p := ⟨w.heap.size, 1, none⟩) (by show w.heap.size < w.heap.size + 1 + 1 + 1; omega)).trans k1
    have j2 := (hb2.cell (p := ⟨w.heap.size + 1, 0, none⟩) (by show w.heap.size + 1 < w.heap.size + 1 + 1 + 1; omega)).trans k2
    have j3 := (hb2.cell (p := ⟨w.heap.size + 1, 1, none⟩) (by show w.heap.size + 1 < w.heap.size + 1 + 1 + 1; omega)).trans k3
    clear hb1 hn2
    go_wp2_with fail
    refine Lex.lexQ_normal (fun _ => ⟨j0, j1, j2, j3⟩) ?_
    refine Lex.lex_do rfl ?_
    clear j0 j1 j2 j3
    obtain ⟨neg1, A1, n1, c1, m1, rfl, hmm, hzz, hpos1, _, _⟩ := hm2.open'
    have hR := HE _ hb2
    have HST := Lib.hid (hm2.stored (u0 := .bool neg1) (u1 := .slice A1 n1 c1) hR)
    have q0 : V2.cell? ⟨w.heap.size + 1 + 1, 0, none⟩ = some (.bool false) := by simp [World.cell?, hR]
    have f0 : V2.frozen? ⟨w.heap.size + 1 + 1, 0, none⟩ = false := by simp [World.frozen?, hR]
    have q1 : V2.cell? ⟨w.heap.size + 1 + 1, 1, none⟩ = some (.slice none 0 0) := by simp [World.cell?, hR]
    have f1 : V2.frozen? ⟨w.heap.size + 1 + 1, 1, none⟩ = false := by simp [World.frozen?, hR]
    have HB := Lib.hid (HB3.out.trans (hb2.mono (by omega)))
    clear hzz hpos1 hmm hm2 hb2 hR k0 k1 k2 k3
    go_wp2_with fail
    refine Lex.lexQ_normal (fun h => absurd h (by decide)) ?_
    refine Lex.lex_nil ?_
    go_wp2
    refine bodyPost_ret (v := .agg #[.bool neg1, .slice A1 n1 c1]) (by simp [results, Tryz.results433, go_sem, q0, q1]) rfl ⟨_, rfl, HST.out, ?_⟩
    exact (HB.out.setCell (by show w.heap.size ≤ w.heap.size + 1 + 1; omega) _).setCell (by show w.heap.size ≤ w.heap.size + 1 + 1; omega) _
  · skip
    go_enter Tryz.func433, Tryz.ntmps433
    go_wp2_with fail
    rw [← hW3]
    have HW := Lib.hid hW3
    clear hW3
    have hbW := Below.refl (w.heap.size + 1 + 1 + 1) W3
    have k0 : W3.cell? ⟨w.heap.size, 0, none⟩ = some (.bool true) := by rw [HW.out]; simp [go_sem]
    have j0 := (hbW.cell (p := ⟨w.heap.size, 0, none⟩) (by show w.heap.size < w.heap.size + 1 + 1 + 1; omega)).trans k0
    have k1 : W3.cell? ⟨w.heap.size, 1, none⟩ = some (.slice A n c) := by rw [HW.out]; simp [go_sem]
    have j1 := (hbW.cell (p := ⟨w.heap.size, 1, none⟩) (by show w.heap.size < w.heap.size + 1 + 1 + 1; omega)).trans k1
    have k2 : W3.cell? ⟨w.heap.size + 1, 0, none⟩ = some (.bool false) := by rw [HW.out]; simp [go_sem]
    have j2 := (hbW.cell (p := ⟨w.heap.size + 1, 0, none⟩) (by show w.heap.size + 1 < w.heap.size + 1 + 1 + 1; omega)).trans k2
    have k3 : W3.cell? ⟨w.heap.size + 1, 1, none⟩ = some (.slice B m d) := by rw [HW.out]; simp [go_sem]
    have j3 := (hbW.cell (p := ⟨w.heap.size + 1, 1, none⟩) (by show w.heap.size + 1 < w.heap.size + 1 + 1 + 1; omega)).trans k3
    refine Lex.wp_region_lex (fun w' => w'.cell? ⟨w.heap.size, 0, none⟩ = some (.bool true) ∧ w'.cell? ⟨w.heap.size, 1, none⟩ = some (.slice A n c) ∧ w'.cell? ⟨w.heap.size + 1, 0, none⟩ = some (.bool false) ∧ w'.cell? ⟨w.heap.size + 1, 1, none⟩ = some (.slice B m d)) (fun j => j != 4)
      [(0, true), (1, true), (2, false), (3, false), (4, false)]
      (by kernel_rfl) (by kernel_rfl) (by kernel_rfl) (by kernel_rfl) ⟨j0, j1, j2, j3⟩ ?_
    iterate 2 (refine Lex.lex_take (v := ?_) rfl rfl (by rfl) (fun _ hS => ?_) ?_; rotate_left 1; (focus (go_split_ands; go_simp; with_reducible rfl)); simp only [List.setIfInBounds_toArray, List.set_cons_zero, List.set_cons_succ])
    refine Lex.lex_do rfl ?_
    have hb0 : Below (w.heap.size + 1 + 1 + 1) W3 W3.drew := hbW.drew
    generalize W3.drew = V0 at *
    clear hbW j0 j1 j2 j3
    replace c98 := c98 _ (HB3.out.trans (hb0.mono (by omega)))
    go_wp2_with fail
    refine (c98).mono ?_
    rintro e V1 ⟨v1, rfl, hm1, hn1⟩
    have hb1 : Below (w.heap.size + 1 + 1 + 1) W3 V1 := hb0.trans (hn1.mono (by have := hb0.size; omega))
    have j0 := (hb1.cell (p := ⟨w.heap.size, 0, none⟩) (by show w.heap.size < w.heap.size + 1 + 1 + 1; omega)).trans k0
    have j1 := (hb1.cell (p := ⟨w.heap.size, 1, none⟩) (by show w.heap.size < w.heap.size + 1 + 1 + 1; omega)).trans k1
    have j2 := (hb1.cell (p := ⟨w.heap.size + 1, 0, none⟩) (by show w.heap.size + 1 < w.heap.size + 1 + 1 + 1; omega)).trans k2
    have j3 := (hb1.cell (p := ⟨w.heap.size + 1, 1, none⟩) (by show w.heap.size + 1 < w.heap.size + 1 + 1 + 1; omega)).trans k3
    clear hb0 hn1
    go_wp2_with fail
    refine Lex.lexQ_normal (fun _ => ⟨j0, j1, j2, j3⟩) ?_
    refine Lex.lex_do rfl ?_
    clear j0 j1 j2 j3
    clear c98
    replace c76 := c76 _ _ (HB3.out.trans (hb1.mono (by omega))) hm1
    go_wp2_with fail
    refine (c76).mono ?_
    rintro e V2 ⟨v2, rfl, hm2, hn2⟩
    have hb2 : Below (w.heap.size + 1 + 1 + 1) W3 V2 := hb1.trans (hn2.mono (by have := hb1.size; omega))
    have j0 := (hb2.cell (p := ⟨w.heap.size, 0, none⟩) (by show w.heap.size < w.heap.size + 1 + 1 + 1; omega)).trans k0
    have j1 := (hb2.cell (p := ⟨w.heap.size, 1, none⟩) (by show w.heap.size < w.heap.size + 1 + 1 + 1; omega)).trans k1
    have j2 := (hb2.cell (p := ⟨w.heap.size + 1, 0, none⟩) (by show w.heap.size + 1 < w.heap.size + 1 + 1 + 1; omega)).trans k2
    have j3 := (hb2.cell (p := ⟨w.heap.size + 1, 1, none⟩) (by show w.heap.size + 1 < w.heap.size + 1 + 1 + 1; omega)).trans k3
    clear hb1 hn2
    go_wp2_with fail
    refine Lex.lexQ_normal (fun _ => ⟨j0, j1, j2, j3⟩) ?_
    refine Lex.lex_do rfl ?_
    clear j0 j1 j2 j3
    obtain ⟨neg1, A1, n1, c1, m1, rfl, hmm, hzz, hpos1, _, _⟩ := hm2.open'
    have hR := HE _ hb2
    have HST := Lib.hid (hm2.stored (u0 := .bool neg1) (u1 := .slice A1 n1 c1) hR)
    have q0 : V2.cell? ⟨w.heap.size + 1 + 1, 0, none⟩ = some (.bool false) := by simp [World.cell?, hR]
    have f0 : V2.frozen? ⟨w.heap.size + 1 + 1, 0, none⟩ = false := by simp [World.frozen?, hR]
    have q1 : V2.cell? ⟨w.heap.size + 1 + 1, 1, none⟩ = some (.slice none 0 0) := by simp [World.cell?, hR]
    have f1 : V2.frozen? ⟨w.heap.size + 1 + 1, 1, none⟩ = false := by simp [World.frozen?, hR]
    have HB := Lib.hid (HB3.out.trans (hb2.mono (by omega)))
    clear hzz hpos1 hmm hm2 hb2 hR k0 k1 k2 k3
    go_wp2_with fail
    refine Lex.lexQ_normal (fun h => absurd h (by decide)) ?_
    refine Lex.lex_nil ?_
    go_wp2
    refine bodyPost_ret (v := .agg #[.bool neg1, .slice A1 n1 c1]) (by simp [results, Tryz.results433, go_sem, q0, q1]) rfl ⟨_, rfl, HST.out, ?_⟩
    exact (HB.out.setCell (by show w.heap.size ≤ w.heap.size + 1 + 1; omega) _).setCell (by show w.heap.size ≤ w.heap.size + 1 + 1; omega) _
  · skip
    go_enter Tryz.func433, Tryz.ntmps433
    go_wp2_with fail
    rw [← hW3]
    have HW := Lib.hid hW3
    clear hW3
    have hbW := Below.refl (w.heap.size + 1 + 1 + 1) W3
    have k0 : W3.cell? ⟨w.heap.size, 0, none⟩ = some (.bool true) := by rw [HW.out]; simp [go_sem]
    have j0 := (hbW.cell (p := ⟨w.heap.size, 0, none⟩) (by show w.heap.size < w.heap.size + 1 + 1 + 1; omega)).trans k0
    have k1 : W3.cell? ⟨w.heap.size, 1, none⟩ = some (.slice A n c) := by rw [HW.out]; simp [go_sem]
    have j1 := (hbW.cell (p := ⟨w.heap.size, 1, none⟩) (by show w.heap.size < w.heap.size + 1 + 1 + 1; omega)).trans k1
    have k2 : W3.cell? ⟨w.heap.size + 1, 0, none⟩ = some (.bool true) := by rw [HW.out]; simp [go_sem]
    have j2 := (hbW.cell (p := ⟨w.heap.size + 1, 0, none⟩) (by show w.heap.size + 1 < w.heap.size + 1 + 1 + 1; omega)).trans k2
    have k3 : W3.cell? ⟨w.heap.size + 1, 1, none⟩ = some (.slice B m d) := by rw [HW.out]; simp [go_sem]
    have j3 := (hbW.cell (p := ⟨w.heap.size + 1, 1, none⟩) (by show w.heap.size + 1 < w.heap.size + 1 + 1 + 1; omega)).trans k3
    refine Lex.wp_region_lex (fun w' => w'.cell? ⟨w.heap.size, 0, none⟩ = some (.bool true) ∧ w'.cell? ⟨w.heap.size, 1, none⟩ = some (.slice A n c) ∧ w'.cell? ⟨w.heap.size + 1, 0, none⟩ = some (.bool true) ∧ w'.cell? ⟨w.heap.size + 1, 1, none⟩ = some (.slice B m d)) (fun j => j != 4)
      [(0, true), (1, true), (2, false), (3, false), (4, false)]
      (by kernel_rfl) (by kernel_rfl) (by kernel_rfl) (by kernel_rfl) ⟨j0, j1, j2, j3⟩ ?_
    iterate 2 (refine Lex.lex_take (v := ?_) rfl rfl (by rfl) (fun _ hS => ?_) ?_; rotate_left 1; (focus (go_split_ands; go_simp; with_reducible rfl)); simp only [List.setIfInBounds_toArray, List.set_cons_zero, List.set_cons_succ])
    refine Lex.lex_do rfl ?_
    have hb0 : Below (w.heap.size + 1 + 1 + 1) W3 W3.drew := hbW.drew
    generalize W3.drew = V0 at *
    clear hbW j0 j1 j2 j3
    replace c98 := c98 _ (HB3.out.trans (hb0.mono (by omega)))
    go_wp2_with fail
    refine (c98).mono ?_
    rintro e V1 ⟨v1, rfl, hm1, hn1⟩
    have hb1 : Below (w.heap.size + 1 + 1 + 1) W3 V1 := hb0.trans (hn1.mono (by have := hb0.size; omega))
    have j0 := (hb1.cell (p := ⟨w.heap.size, 0, none⟩) (by show w.heap.size < w.heap.size + 1 + 1 + 1; omega)).trans k0
    have j1 := (hb1.cell (p := ⟨w.heap.size, 1, none⟩) (by show w.heap.size < w.heap.size + 1 + 1 + 1; omega)).trans k1
    have j2 := (hb1.cell (p := ⟨w.heap.size + 1, 0, none⟩) (by show w.heap.size + 1 < w.heap.size + 1 + 1 + 1; omega)).trans k2
    have j3 := (hb1.cell (p := ⟨w.heap.size + 1, 1, none⟩) (by show w.heap.size + 1 < w.heap.size + 1 + 1 + 1; omega)).trans k3
    clear hb0 hn1
    go_wp2_with fail
    refine Lex.lexQ_normal (fun _ => ⟨j0, j1, j2, j3⟩) ?_
    refine Lex.lex_do rfl ?_
    clear j0 j1 j2 j3
    clear c98
    replace c76 := c76 _ _ (HB3.out.trans (hb1.mono (by omega))) hm1
    go_wp2_with fail
    refine (c76).mono ?_
    rintro e V2 ⟨v2, rfl, hm2, hn2⟩
    have hb2 : Below (w.heap.size + 1 + 1 + 1) W3 V2 := hb1.trans (hn2.mono (by have := hb1.size; omega))
    have j0 := (hb2.cell (p := ⟨w.heap.size, 0, none⟩) (by show w.heap.size < w.heap.size + 1 + 1 + 1; omega)).trans k0
    have j1 := (hb2.cell (p := ⟨w.heap.size, 1, none⟩) (by show w.heap.size < w.heap.size + 1 + 1 + 1; omega)).trans k1
    have j2 := (hb2.cell (p := ⟨w.heap.size + 1, 0, none⟩) (by show w.heap.size + 1 < w.heap.size + 1 + 1 + 1; omega)).trans k2
    have j3 := (hb2.cell (p := ⟨w.heap.size + 1, 1, none⟩) (by show w.heap.size + 1 < w.heap.size + 1 + 1 + 1; omega)).trans k3
    clear hb1 hn2
    go_wp2_with fail
    refine Lex.lexQ_normal (fun _ => ⟨j0, j1, j2, j3⟩) ?_
    refine Lex.lex_do rfl ?_
    clear j0 j1 j2 j3
    obtain ⟨neg1, A1, n1, c1, m1, rfl, hmm, hzz, hpos1, _, _⟩ := hm2.open'
    have hR := HE _ hb2
    have HST := Lib.hid (hm2.stored (u0 := .bool neg1) (u1 := .slice A1 n1 c1) hR)
    have q0 : V2.cell? ⟨w.heap.size + 1 + 1, 0, none⟩ = some (.bool false) := by simp [World.cell?, hR]
    have f0 : V2.frozen? ⟨w.heap.size + 1 + 1, 0, none⟩ = false := by simp [World.frozen?, hR]
    have q1 : V2.cell? ⟨w.heap.size + 1 + 1, 1, none⟩ = some (.slice none 0 0) := by simp [World.cell?, hR]
    have f1 : V2.frozen? ⟨w.heap.size + 1 + 1, 1, none⟩ = false := by simp [World.frozen?, hR]
    have HB := Lib.hid (HB3.out.trans (hb2.mono (by omega)))
    clear hzz hpos1 hmm hm2 hb2 hR k0 k1 k2 k3
    go_wp2_with fail
    refine Lex.lexQ_normal (fun h => absurd h (by decide)) ?_
    refine Lex.lex_nil ?_
    go_wp2
    refine bodyPost_ret (v := .agg #[.bool neg1, .slice A1 n1 c1]) (by simp [results, Tryz.results433, go_sem, q0, q1]) rfl ⟨_, rfl, HST.out, ?_⟩
    exact (HB.out.setCell (by show w.heap.size ≤ w.heap.size + 1 + 1; omega) _).setCell (by show w.heap.size ≤ w.heap.size + 1 + 1; omega) _

set_option maxRecDepth 100000 in
set_option maxHeartbeats 1600000 in
theorem zcmp_any {w : World} {u v : Value} {x y : Int} {N M : Nat} (hu : IsZ w u x N) (hv : IsZ w v y M) (hN : N ≤ 999) (hM : M ≤ 999) :
    Calls Tryz.prog 394 #[u, v] w (RetV (.int .i64 (sgn (x - y))) w) := by
  have c107 : ∀ W, Below w.heap.size w W → Calls Tryz.prog 433 #[u, v] W (RetZ (x - y) (max N M + 1) W) := fun W hb => sub_any (hu.below hb) (hv.below hb) hN hM
  have c108 : ∀ W v1, IsZ W v1 (x - y) (max N M + 1) → Calls Tryz.prog 404 #[v1] W (RetV (.int .i64 (sgn (x - y))) W) := fun W v1 h => sign_any v1 _ _ W h (by omega)
  obtain ⟨na, A, n, c, a, rfl, -, -, -, -⟩ := hu.open'
  obtain ⟨nb, B, m, d, b, rfl, -, -, -, -⟩ := hv.open'
  clear hu hv
  have hB : Below w.heap.size w ((w.alloc (.cells #[.bool na, .slice A n c] 348)).alloc (.cells #[.bool nb, .slice B m d] 348)) := ((Below.refl _ _).alloc (Nat.le_refl _) _).alloc (by simp) _
  have c1 := c107 _ hB
  have HB := Lib.hid hB
  clear c107 hB
  rcases na with _ | _ <;> rcases nb with _ | _
  · skip
    go_enter Tryz.func394, Tryz.ntmps394
    go_wp2_with fail
    refine c1.mono ?_
    rintro e w1 ⟨v1, rfl, hz1, hb1⟩
    have c2 := c108 _ _ hz1
    have HB2 := Lib.hid (HB.out.trans (hb1.mono HB.out.size))
    clear c1 c108 hz1 hb1
    go_wp2_with fail
    refine c2.mono ?_
    rintro e w2 ⟨rfl, hb2⟩
    have HB3 := Lib.hid (HB2.out.trans (hb2.mono HB2.out.size))
    clear hb2
    go_wp2_with fail
    go_ret
    exact ⟨rfl, HB3.out⟩
  · skip
    go_enter Tryz.func394, Tryz.ntmps394
    go_wp2_with fail
    refine c1.mono ?_
    rintro e w1 ⟨v1, rfl, hz1, hb1⟩
    have c2 := c108 _ _ hz1
    have HB2 := Lib.hid (HB.out.trans (hb1.mono HB.out.size))
    clear c1 c108 hz1 hb1
    go_wp2_with fail
    refine c2.mono ?_
    rintro e w2 ⟨rfl, hb2⟩
    have HB3 := Lib.hid (HB2.out.trans (hb2.mono HB2.out.size))
    clear hb2
    go_wp2_with fail
    go_ret
    exact ⟨rfl, HB3.out⟩
  · skip
    go_enter Tryz.func394, Tryz.ntmps394
    go_wp2_with fail
    refine c1.mono ?_
    rintro e w1 ⟨v1, rfl, hz1, hb1⟩
    have c2 := c108 _ _ hz1
    have HB2 := Lib.hid (HB.out.trans (hb1.mono HB.out.size))
    clear c1 c108 hz1 hb1
    go_wp2_with fail
    refine c2.mono ?_
    rintro e w2 ⟨rfl, hb2⟩
    have HB3 := Lib.hid (HB2.out.trans (hb2.mono HB2.out.size))
    clear hb2
    go_wp2_with fail
    go_ret
    exact ⟨rfl, HB3.out⟩
  · skip
    go_enter Tryz.func394, Tryz.ntmps394
    go_wp2_with fail
    refine c1.mono ?_
    rintro e w1 ⟨v1, rfl, hz1, hb1⟩
    have c2 := c108 _ _ hz1
    have HB2 := Lib.hid (HB.out.trans (hb1.mono HB.out.size))
    clear c1 c108 hz1 hb1
    go_wp2_with fail
    refine c2.mono ?_
    rintro e w2 ⟨rfl, hb2⟩
    have HB3 := Lib.hid (HB2.out.trans (hb2.mono HB2.out.size))
    clear hb2
    go_wp2_with fail
    go_ret
    exact ⟨rfl, HB3.out⟩

end Go.Proofs.YtbkgbkmpalbdpaaGreatDoor.G

namespace DG

theorem dv_set (b : Int) : ∀ (l : List Int) (k : Nat) (v : Int), k < l.length → dv b (l.set k v) = dv b l + (v - l.getD k 0) * b ^ k
  | [], k, v, h => by simp at h
  | x :: l, 0, v, _ => by simp [dv]; omega
  | x :: l, k + 1, v, h => by
    have ih := dv_set b l k v (by simpa using h)
    simp only [List.set_cons_succ, dv, List.getD_cons_succ]
    rw [ih, Int.mul_add, Int.pow_succ, ← Int.add_assoc]
    congr 1
    rw [Int.mul_comm b, Int.mul_assoc]
theorem getD_set_ne (l : List Int) (k j : Nat) (v : Int) (h : k ≠ j) : (l.set k v).getD j 0 = l.getD j 0 := by
  simp [List.getD, List.getElem?_set_ne h]
theorem mul_t {b x y z c : Int} (hb : 2 ≤ b) (hx : 0 ≤ x ∧ x < b) (hy : 0 ≤ y ∧ y < b) (hz : 0 ≤ z ∧ z < b) (hc : 0 ≤ c ∧ c < b) : 0 ≤ x * y ∧ x * y ≤ (b - 1) * (b - 1) ∧ 0 ≤ x * y + z + c ∧ x * y + z + c < b * b := by
  have h1 : 0 ≤ x * y := Int.mul_nonneg hx.1 hy.1
  have h2 : x * y ≤ (b - 1) * (b - 1) := Int.mul_le_mul (by omega) (by omega) hy.1 (by omega)
  have h3 : (b - 1) * (b - 1) = b * b - 2 * b + 1 := by
    rw [Int.sub_mul, Int.mul_sub]; omega
  refine ⟨h1, h2, by omega, by omega⟩
/-- A row of the multiplication under way. -/
structure MRow (b : Int) (V0 X : Int) (Y : Nat → Int) (L i m j : Nat) (zs : List Int) (c : Int) : Prop where
  len : zs.length = L
  dig : Dig b zs
  car : 0 ≤ c ∧ c < b
  val : dv b zs + c * b ^ (i + j) = V0 + X * ds b Y j * b ^ i
  nil : ∀ k, i + m ≤ k → zs.getD k 0 = 0
/-- Some rows of the multiplication. -/
structure MRows (b : Int) (X : Nat → Int) (V : Int) (L m i : Nat) (zs : List Int) : Prop where
  len : zs.length = L
  dig : Dig b zs
  val : dv b zs = ds b X i * V
  nil : ∀ k, i + m ≤ k → zs.getD k 0 = 0
theorem MRows.start {b : Int} (hb : 1 ≤ b) (X : Nat → Int) (V : Int) (L m : Nat) : MRows b X V L m 0 (List.replicate L 0) :=
  ⟨by simp, Dig.zeros hb L, by rw [dv_zeros, ds, Int.zero_mul], fun k _ => by
    simp only [List.getD, List.getElem?_replicate]
    split <;> rfl⟩
theorem MRows.row {b : Int} {X : Nat → Int} {V : Int} {L m i : Nat} {zs : List Int} (h : MRows b X V L m i zs) (hb : 2 ≤ b) (x : Int) (Y : Nat → Int) : MRow b (dv b zs) x Y L i m 0 zs 0 :=
  ⟨h.len, h.dig, by omega, by simp [ds], h.nil⟩
theorem MRow.step {b : Int} {V0 X : Int} {Y : Nat → Int} {L i m j : Nat} {zs : List Int} {c : Int} (h : MRow b V0 X Y L i m j zs c) (hb : 2 ≤ b) (hL : i + m ≤ L) (hj : j < m) (hX : 0 ≤ X ∧ X < b) (hY : 0 ≤ Y j ∧ Y j < b) :
    MRow b V0 X Y L i m (j + 1) (zs.set (i + j) ((X * Y j + zs.getD (i + j) 0 + c) % b)) ((X * Y j + zs.getD (i + j) 0 + c) / b) := by
  have hz := h.dig.getD (by omega) (i + j)
  have ht := mul_t hb hX hY hz h.car
  have hv := dv_set b zs (i + j) ((X * Y j + zs.getD (i + j) 0 + c) % b) (by rw [h.len]; omega)
  have hval := h.val
  generalize zs.getD (i + j) 0 = z at *
  generalize hT : X * Y j + z + c = t at *
  have hm : 0 ≤ t % b := Int.emod_nonneg _ (by omega)
  have hm2 : t % b < b := Int.emod_lt_of_pos _ (by omega)
  refine ⟨by rw [List.length_set]; exact h.len, h.dig.set _ ⟨hm, hm2⟩, ⟨Int.ediv_nonneg ht.2.2.1 (by omega), Int.ediv_lt_of_lt_mul (by omega) ht.2.2.2⟩, ?_, fun k hk => ?_⟩
  · rw [hv]
    have e1 : t = b * (t / b) + t % b := (Int.mul_ediv_add_emod t b).symm
    have e2 : b ^ (i + (j + 1)) = b ^ (i + j) * b := Int.pow_succ _ _
    have e3 : ds b Y (j + 1) = ds b Y j + Y j * b ^ j := rfl
    have e4 : b ^ (i + j) = b ^ i * b ^ j := Int.pow_add _ _ _
    rw [e2, e3]
    have e5 : X * (ds b Y j + Y j * b ^ j) * b ^ i = X * ds b Y j * b ^ i + (X * Y j) * b ^ (i + j) := by
      rw [e4, Int.mul_add, Int.add_mul]
      congr 1
      rw [← Int.mul_assoc X, Int.mul_assoc, Int.mul_comm (b ^ j)]
    rw [e5, ← Int.add_assoc, ← hval]
    have e6 : t / b * (b ^ (i + j) * b) = (b * (t / b)) * b ^ (i + j) := by
      rw [Int.mul_comm (b ^ (i + j)) b, ← Int.mul_assoc, Int.mul_comm (t / b) b]
    rw [e6]
    generalize b * (t / b) = u at *
    generalize b ^ (i + j) = p at *
    have e7 : X * Y j = u + t % b - z - c := by omega
    rw [e7]
    simp only [Int.sub_mul, Int.add_mul]
    omega
  · rw [getD_set_ne _ _ _ _ (by omega)]
    exact h.nil k hk
theorem MRow.done {b : Int} {X : Nat → Int} {V : Int} {Y : Nat → Int} {L m i : Nat} {zs0 zs : List Int} {c : Int} (h0 : MRows b X V L m i zs0) (h : MRow b (dv b zs0) (X i) Y L i m m zs c) (hL : i + m < L) (hV : ds b Y m = V) :
    MRows b X V L m (i + 1) (zs.set (i + m) c) := by
  have hv := dv_set b zs (i + m) c (by rw [h.len]; omega)
  rw [h.nil (i + m) (Nat.le_refl _)] at hv
  refine ⟨by rw [List.length_set]; exact h.len, h.dig.set _ h.car, ?_, fun k hk => ?_⟩
  · rw [hv]
    have := h.val
    have e3 : ds b X (i + 1) = ds b X i + X i * b ^ i := rfl
    rw [e3, Int.add_mul, ← h0.val]
    rw [hV] at this
    have e4 : X i * V * b ^ i = X i * b ^ i * V := by rw [Int.mul_assoc, Int.mul_comm V, ← Int.mul_assoc]
    rw [e4] at this
    simp only [Int.sub_zero]
    exact this
  · rw [getD_set_ne _ _ _ _ (by omega)]
    exact h.nil k (by omega)
end DG

namespace Go.Proofs.YtbkgbkmpalbdpaaGreatDoor.G
open Go.RowKit

/-- The value v is a wide fraction's two integers, p and q. -/
def IsQ (w : World) (v : Value) (p q : Int) (N : Nat) : Prop := ∃ (na : Bool) (a : Value) (nb : Bool) (b : Value), v = .agg #[.bool na, a, .bool nb, b] ∧ IsZ w (.agg #[.bool na, a]) p N ∧ IsZ w (.agg #[.bool nb, b]) q N
theorem IsQ.below {w w' : World} {v : Value} {p q : Int} {N : Nat} (h : IsQ w v p q N) (hb : Below w.heap.size w w') : IsQ w' v p q N := by
  obtain ⟨na, a, nb, b, h1, h2, h3⟩ := h
  exact ⟨na, a, nb, b, h1, h2.below hb, h3.below hb⟩
theorem qcell_no (off : Nat) (x : Int) : (#[.bool false, .slice none 0 0, .bool false, .slice none 0 0] : Array Value)[off]? ≠ some (.int .u32 x) := by
  intro h
  rcases off with _ | _ | _ | _ | off <;> simp at h
theorem IsZ.storedQ {w : World} {v : Value} {z : Int} {N R : Nat} {u0 u1 u2 u3 : Value} {fr : Nat × Nat} (h : IsZ w v z N) (hR : w.heap[R]? = some (.cells #[.bool false, .slice none 0 0, .bool false, .slice none 0 0] 350 fr)) : IsZ ((((w.setCell ⟨R, 0, none⟩ u0).setCell ⟨R, 1, none⟩ u1).setCell ⟨R, 2, none⟩ u2).setCell ⟨R, 3, none⟩ u3) v z N :=
  h.put hR qcell_no (by simp [World.setCell]) fun k hk => by rw [Below.heap_setCell _ _ _ _ (by simpa using hk), Below.heap_setCell _ _ _ _ (by simpa using hk), Below.heap_setCell _ _ _ _ (by simpa using hk), Below.heap_setCell _ _ _ _ (by simpa using hk)]
def RetQ (p q : Int) (N : Nat) (w : World) (e : Ending) (w' : World) : Prop := ∃ v, e = .returned v ∧ IsQ w' v p q N ∧ Below w.heap.size w w'


set_option maxRecDepth 100000 in
set_option maxHeartbeats 1600000 in
theorem from_any (p q : Int) (w : World) (hp : I64 p) (hq : I64 q) :
    Calls Tryz.prog 232 #[.agg #[.int .i64 p, .int .i64 q]] w (RetQ p q 2 w) := by
  have cp := fun W => of_any p W hp
  have cq := fun W => of_any q W hq
  have hB : Below w.heap.size w ((w.alloc (.cells #[.int .i64 p, .int .i64 q] 187)).alloc (.cells #[.bool false, .slice none 0 0, .bool false, .slice none 0 0] 350)) := ((Below.refl _ _).alloc (Nat.le_refl _) _).alloc (by simp) _
  obtain ⟨W3, hW3⟩ : ∃ W3, W3 = (w.alloc (.cells #[.int .i64 p, .int .i64 q] 187)).alloc (.cells #[.bool false, .slice none 0 0, .bool false, .slice none 0 0] 350) := ⟨_, rfl⟩
  have hs3 : W3.heap.size = w.heap.size + 1 + 1 := by rw [hW3]; simp
  have HE : ∀ W, Below (w.heap.size + 1 + 1) W3 W → W.heap[w.heap.size + 1]? = some (.cells #[.bool false, .slice none 0 0, .bool false, .slice none 0 0] 350 (0, 0)) := fun W hb => by
    rw [hb.block (w.heap.size + 1) (by omega), hW3]
    exact heap_alloc_new' _ (.cells #[.bool false, .slice none 0 0, .bool false, .slice none 0 0] 350) (by simp)
  rw [← hW3] at hB
  have HB3 := Lib.hid hB
  clear hB hp hq
  go_enter Tryz.func232, Tryz.ntmps232
  go_wp2_with fail
  rw [← hW3]
  have HW := Lib.hid hW3
  clear hW3
  have hbW := Below.refl (w.heap.size + 1 + 1) W3
  have k0 : W3.cell? ⟨w.heap.size, 0, none⟩ = some (.int .i64 p) := by rw [HW.out]; simp [go_sem]
  have j0 := (hbW.cell (p := ⟨w.heap.size, 0, none⟩) (by show w.heap.size < w.heap.size + 1 + 1; omega)).trans k0
  have k1 : W3.cell? ⟨w.heap.size, 1, none⟩ = some (.int .i64 q) := by rw [HW.out]; simp [go_sem]
  have j1 := (hbW.cell (p := ⟨w.heap.size, 1, none⟩) (by show w.heap.size < w.heap.size + 1 + 1; omega)).trans k1
  refine Lex.wp_region_lex (fun w' => w'.cell? ⟨w.heap.size, 0, none⟩ = some (.int .i64 p) ∧ w'.cell? ⟨w.heap.size, 1, none⟩ = some (.int .i64 q)) (fun j => j != 7)
    [(0, true), (1, true), (3, true), (4, true), (2, false), (5, false), (6, false), (7, false)]
    (by kernel_rfl) (by kernel_rfl) (by kernel_rfl) (by kernel_rfl) ⟨j0, j1⟩ ?_
  iterate 4 (refine Lex.lex_take (v := ?_) rfl rfl (by rfl) (fun _ hS => ?_) ?_; rotate_left 1; (focus (go_split_ands; go_simp; with_reducible rfl)); simp only [List.setIfInBounds_toArray, List.set_cons_zero, List.set_cons_succ])
  refine Lex.lex_do rfl ?_
  have hb0 : Below (w.heap.size + 1 + 1) W3 W3.drew := hbW.drew
  generalize W3.drew = V0 at *
  clear hbW j0 j1
  go_wp2_with fail
  refine (cp _).mono ?_
  rintro e V1 ⟨v1, rfl, hm1, hn1⟩
  have hb1 : Below (w.heap.size + 1 + 1) W3 V1 := hb0.trans (hn1.mono (by have := hb0.size; omega))
  have hn1 := Lib.hid hn1
  go_wp2_with fail
  have j0 := (hb1.cell (p := ⟨w.heap.size, 0, none⟩) (by show w.heap.size < w.heap.size + 1 + 1; omega)).trans k0
  have j1 := (hb1.cell (p := ⟨w.heap.size, 1, none⟩) (by show w.heap.size < w.heap.size + 1 + 1; omega)).trans k1
  refine Lex.lexQ_normal (fun _ => ⟨j0, j1⟩) ?_
  refine Lex.lex_do rfl ?_
  clear j0 j1
  go_wp2_with fail
  refine (cq _).mono ?_
  rintro e V2 ⟨v2, rfl, hm2, hn2⟩
  have hb2 : Below (w.heap.size + 1 + 1) W3 V2 := hb1.trans (hn2.mono (by have := hb1.size; omega))
  have hn2 := Lib.hid hn2
  go_wp2_with fail
  have j0 := (hb2.cell (p := ⟨w.heap.size, 0, none⟩) (by show w.heap.size < w.heap.size + 1 + 1; omega)).trans k0
  have j1 := (hb2.cell (p := ⟨w.heap.size, 1, none⟩) (by show w.heap.size < w.heap.size + 1 + 1; omega)).trans k1
  refine Lex.lexQ_normal (fun _ => ⟨j0, j1⟩) ?_
  refine Lex.lex_do rfl ?_
  clear j0 j1
  obtain ⟨neg1, A1, n1, c1, m1, rfl, -, -, -, -, -⟩ := hm1.open'
  obtain ⟨neg2, A2, n2, c2, m2, rfl, -, -, -, -, -⟩ := hm2.open'
  go_wp2_with fail
  have j0 := (hb2.cell (p := ⟨w.heap.size, 0, none⟩) (by show w.heap.size < w.heap.size + 1 + 1; omega)).trans k0
  have j1 := (hb2.cell (p := ⟨w.heap.size, 1, none⟩) (by show w.heap.size < w.heap.size + 1 + 1; omega)).trans k1
  refine Lex.lexQ_normal (fun _ => ⟨j0, j1⟩) ?_
  refine Lex.lex_do rfl ?_
  clear j0 j1
  have hR := HE _ hb2
  have HST1 := Lib.hid ((hm1.below hn2.out).storedQ (u0 := .bool neg1) (u1 := .slice A1 n1 c1) (u2 := .bool neg2) (u3 := .slice A2 n2 c2) hR)
  have HST2 := Lib.hid (hm2.storedQ (u0 := .bool neg1) (u1 := .slice A1 n1 c1) (u2 := .bool neg2) (u3 := .slice A2 n2 c2) hR)
  have q0 : V2.cell? ⟨w.heap.size + 1, 0, none⟩ = some (.bool false) := by simp [World.cell?, hR]
  have f0 : V2.frozen? ⟨w.heap.size + 1, 0, none⟩ = false := by simp [World.frozen?, hR]
  have q1 : V2.cell? ⟨w.heap.size + 1, 1, none⟩ = some (.slice none 0 0) := by simp [World.cell?, hR]
  have f1 : V2.frozen? ⟨w.heap.size + 1, 1, none⟩ = false := by simp [World.frozen?, hR]
  have q2 : V2.cell? ⟨w.heap.size + 1, 2, none⟩ = some (.bool false) := by simp [World.cell?, hR]
  have f2 : V2.frozen? ⟨w.heap.size + 1, 2, none⟩ = false := by simp [World.frozen?, hR]
  have q3 : V2.cell? ⟨w.heap.size + 1, 3, none⟩ = some (.slice none 0 0) := by simp [World.cell?, hR]
  have f3 : V2.frozen? ⟨w.heap.size + 1, 3, none⟩ = false := by simp [World.frozen?, hR]
  have HB := Lib.hid (HB3.out.trans (hb2.mono (by omega)))
  clear hm1 hm2 hR cp cq
  go_wp2_with fail
  refine Lex.lexQ_normal (fun h => absurd h (by decide)) ?_
  refine Lex.lex_nil ?_
  go_wp2
  refine bodyPost_ret (v := .agg #[.bool neg1, .slice A1 n1 c1, .bool neg2, .slice A2 n2 c2]) (by simp [results, Tryz.results232, go_sem, q0, q1, q2, q3]) rfl ⟨_, rfl, ⟨neg1, _, neg2, _, rfl, HST1.out, HST2.out⟩, ?_⟩
  exact (((HB.out.setCell (by show w.heap.size ≤ w.heap.size + 1; omega) _).setCell (by show w.heap.size ≤ w.heap.size + 1; omega) _).setCell (by show w.heap.size ≤ w.heap.size + 1; omega) _).setCell (by show w.heap.size ≤ w.heap.size + 1; omega) _

end Go.Proofs.YtbkgbkmpalbdpaaGreatDoor.G
