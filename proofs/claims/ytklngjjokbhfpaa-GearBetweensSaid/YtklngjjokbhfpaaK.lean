/- wide's Add, Sub, Cmp (printed by genk.py). -/
import Derived.Test.YtklngjjokbhfpaaJ
namespace Go.Proofs.Ytklngjjokbhfpaa
open Go.RowKit

theorem add_any {w : World} {u v : Value} {x y : Int} {N M : Nat} (hu : IsZ w u x N) (hv : IsZ w v y M) (hN : N ≤ 999) (hM : M ≤ 999) :
    Calls Try.prog 76 #[u, v] w (RetZ (x + y) (max N M + 1) w) := by
  obtain ⟨na, A, n, c, a, rfl, ha, hx, _, _⟩ := hu.open'
  obtain ⟨nb, B, m, d, b, rfl, hb, hy, _, _⟩ := hv.open'
  by_cases hab : nb = na
  · subst hab
    have h := add_same nb A n c B m d a b N M w ha hb hN hM
    have e : (if nb then -(a + b) else a + b) = x + y := by rw [hx, hy]; cases nb <;> simp <;> omega
    rwa [e] at h
  · have hnb : nb = !na := by cases na <;> cases nb <;> simp_all
    subst hnb
    by_cases hle : b ≤ a
    · have h := add_ge na A n c B m d a b N M w ha hb hN hM hle
      have e : (if na then -(a - b) else a - b) = x + y := by rw [hx, hy]; cases na <;> simp <;> omega
      rw [e] at h
      exact h.mono fun e w' ⟨v, h1, h2, h3⟩ => ⟨v, h1, h2.more (by omega), h3⟩
    · have h := add_lt na A n c B m d a b N M w ha hb hN hM (by omega)
      have e : (if na then b - a else -(b - a)) = x + y := by rw [hx, hy]; cases na <;> simp <;> omega
      rw [e] at h
      exact h.mono fun e w' ⟨v, h1, h2, h3⟩ => ⟨v, h1, h2.more (by omega), h3⟩

set_option maxRecDepth 100000 in
set_option maxHeartbeats 1600000 in
theorem sub_any {w : World} {u v : Value} {x y : Int} {N M : Nat} (hu : IsZ w u x N) (hv : IsZ w v y M) (hN : N ≤ 999) (hM : M ≤ 999) :
    Calls Try.prog 107 #[u, v] w (RetZ (x - y) (max N M + 1) w) := by
  have c98 : ∀ W, Below w.heap.size w W → Calls Try.prog 98 #[v] W (RetZ (-y) M W) := fun W hb => neg_any v y M W (hv.below hb) (by omega)
  have c76 : ∀ W v1, Below w.heap.size w W → IsZ W v1 (-y) M → Calls Try.prog 76 #[u, v1] W (RetZ (x - y) (max N M + 1) W) := fun W v1 hb h1 => add_any (hu.below hb) h1 hN hM
  obtain ⟨na, A, n, c, a, rfl, -, -, -, -⟩ := hu.open'
  obtain ⟨nb, B, m, d, b, rfl, -, -, -, -⟩ := hv.open'
  clear hu hv
  have hB : Below w.heap.size w (((w.alloc (.cells #[.bool na, .slice A n c] 83)).alloc (.cells #[.bool nb, .slice B m d] 83)).alloc (.cells #[.bool false, .slice none 0 0] 83)) := (((Below.refl _ _).alloc (Nat.le_refl _) _).alloc (by simp) _).alloc (by simp; omega) _
  obtain ⟨W3, hW3⟩ : ∃ W3, W3 = ((w.alloc (.cells #[.bool na, .slice A n c] 83)).alloc (.cells #[.bool nb, .slice B m d] 83)).alloc (.cells #[.bool false, .slice none 0 0] 83) := ⟨_, rfl⟩
  have hs3 : W3.heap.size = w.heap.size + 1 + 1 + 1 := by rw [hW3]; simp
  have HE : ∀ W, Below (w.heap.size + 1 + 1 + 1) W3 W → W.heap[w.heap.size + 1 + 1]? = some (.cells #[.bool false, .slice none 0 0] 83 (0, 0)) := fun W hb => res_zcell rfl rfl (hW3 ▸ hb)
  rw [← hW3] at hB
  have HB3 := Lib.hid hB
  clear hB
  rcases na with _ | _ <;> rcases nb with _ | _
  · skip
    go_enter Try.func107, Try.ntmps107
    go_wp2_with fail
    rw [← hW3]
    have HW := Lib.hid hW3
    clear hW3
    have hbW := Below.refl (w.heap.size + 1 + 1 + 1) W3
    have k0 : W3.cell? ⟨w.heap.size, 0, none⟩ = some (.bool false) := by rw [HW.out]; simp [go_sem]
    have j0 := (hbW.cell (p := ⟨w.heap.size, 0, none⟩) (by show w.heap.size < w.heap.size + 1 + 1 + 1; omega)).trans k0
    have k1 : W3.cell? ⟨w.heap.size, 1, none⟩ = some (.slice A n c) := by rw [HW.out]; simp [go_sem]
    have j1 := (hbW.cell (p := ⟨w.heap.size, 1, none⟩) (by show w.heap.size < w.heap.size + 1 + 1 + 1; omega)).trans k1
    have k2 : W3.cell? ⟨w.heap.size + 1, 0, none⟩ = some (.bool false) := by rw [HW.out]; simp [go_sem]
    have j2 := (hbW.cell (p := ⟨w.heap.size + 1, 0, none⟩) (by show w.heap.size + 1 < w.heap.size + 1 + 1 + 1; omega)).trans k2
    have k3 : W3.cell? ⟨w.heap.size + 1, 1, none⟩ = some (.slice B m d) := by rw [HW.out]; simp [go_sem]
    have j3 := (hbW.cell (p := ⟨w.heap.size + 1, 1, none⟩) (by show w.heap.size + 1 < w.heap.size + 1 + 1 + 1; omega)).trans k3
    refine Lex.wp_region_lex (fun w' => w'.cell? ⟨w.heap.size, 0, none⟩ = some (.bool false) ∧ w'.cell? ⟨w.heap.size, 1, none⟩ = some (.slice A n c) ∧ w'.cell? ⟨w.heap.size + 1, 0, none⟩ = some (.bool false) ∧ w'.cell? ⟨w.heap.size + 1, 1, none⟩ = some (.slice B m d)) (fun j => j != 4)
      [(0, true), (1, true), (2, false), (3, false), (4, false)]
      (by kernel_rfl) (by kernel_rfl) (by kernel_rfl) (by kernel_rfl) ⟨j0, j1, j2, j3⟩ ?_
    iterate 2 (refine Lex.lex_take (v := ?_) rfl rfl (by rfl) (fun _ hS => ?_) ?_; rotate_left 1; (focus (go_split_ands; go_simp; with_reducible rfl)); simp only [List.setIfInBounds_toArray, List.set_cons_zero, List.set_cons_succ])
    refine Lex.lex_do rfl ?_
    have hb0 : Below (w.heap.size + 1 + 1 + 1) W3 W3.drew := hbW.drew
    generalize W3.drew = V0 at *
    clear hbW j0 j1 j2 j3
    replace c98 := c98 _ (HB3.out.trans (hb0.mono (by omega)))
    go_wp2_with fail
    refine (c98).mono ?_
    rintro e V1 ⟨v1, rfl, hm1, hn1⟩
    have hb1 : Below (w.heap.size + 1 + 1 + 1) W3 V1 := hb0.trans (hn1.mono (by have := hb0.size; omega))
    have j0 := (hb1.cell (p := ⟨w.heap.size, 0, none⟩) (by show w.heap.size < w.heap.size + 1 + 1 + 1; omega)).trans k0
    have j1 := (hb1.cell (p := ⟨w.heap.size, 1, none⟩) (by show w.heap.size < w.heap.size + 1 + 1 + 1; omega)).trans k1
    have j2 := (hb1.cell (p := ⟨w.heap.size + 1, 0, none⟩) (by show w.heap.size + 1 < w.heap.size + 1 + 1 + 1; omega)).trans k2
    have j3 := (hb1.cell (p := ⟨w.heap.size + 1, 1, none⟩) (by show w.heap.size + 1 < w.heap.size + 1 + 1 + 1; omega)).trans k3
    clear hb0 hn1
    go_wp2_with fail
    refine Lex.lexQ_normal (fun _ => ⟨j0, j1, j2, j3⟩) ?_
    refine Lex.lex_do rfl ?_
    clear j0 j1 j2 j3
    clear c98
    replace c76 := c76 _ _ (HB3.out.trans (hb1.mono (by omega))) hm1
    go_wp2_with fail
    refine (c76).mono ?_
    rintro e V2 ⟨v2, rfl, hm2, hn2⟩
    have hb2 : Below (w.heap.size + 1 + 1 + 1) W3 V2 := hb1.trans (hn2.mono (by have := hb1.size; omega))
    have j0 := (hb2.cell (p := ⟨w.heap.size, 0, none⟩) (by show w.heap.size < w.heap.size + 1 + 1 + 1; omega)).trans k0
    have j1 := (hb2.cell (p := ⟨w.heap.size, 1, none⟩) (by show w.heap.size < w.heap.size + 1 + 1 + 1; omega)).trans k1
    have j2 := (hb2.cell (p := ⟨w.heap.size + 1, 0, none⟩) (by show w.heap.size + 1 < w.heap.size + 1 + 1 + 1; omega)).trans k2
    have j3 := (hb2.cell (p := ⟨w.heap.size + 1, 1, none⟩) (by show w.heap.size + 1 < w.heap.size + 1 + 1 + 1; omega)).trans k3
    clear hb1 hn2
    go_wp2_with fail
    refine Lex.lexQ_normal (fun _ => ⟨j0, j1, j2, j3⟩) ?_
    refine Lex.lex_do rfl ?_
    clear j0 j1 j2 j3
    obtain ⟨neg1, A1, n1, c1, m1, rfl, hmm, hzz, hpos1, _, _⟩ := hm2.open'
    have hR := HE _ hb2
    have HST := Lib.hid (hm2.stored (u0 := .bool neg1) (u1 := .slice A1 n1 c1) hR)
    have q0 : V2.cell? ⟨w.heap.size + 1 + 1, 0, none⟩ = some (.bool false) := by simp [World.cell?, hR]
    have f0 : V2.frozen? ⟨w.heap.size + 1 + 1, 0, none⟩ = false := by simp [World.frozen?, hR]
    have q1 : V2.cell? ⟨w.heap.size + 1 + 1, 1, none⟩ = some (.slice none 0 0) := by simp [World.cell?, hR]
    have f1 : V2.frozen? ⟨w.heap.size + 1 + 1, 1, none⟩ = false := by simp [World.frozen?, hR]
    have HB := Lib.hid (HB3.out.trans (hb2.mono (by omega)))
    clear hzz hpos1 hmm hm2 hb2 hR k0 k1 k2 k3
    go_wp2_with fail
    refine Lex.lexQ_normal (fun h => absurd h (by decide)) ?_
    refine Lex.lex_nil ?_
    go_wp2
    refine bodyPost_ret (v := .agg #[.bool neg1, .slice A1 n1 c1]) (by simp [results, Try.results107, go_sem, q0, q1]) rfl ⟨_, rfl, HST.out, ?_⟩
    exact (HB.out.setCell (by show w.heap.size ≤ w.heap.size + 1 + 1; omega) _).setCell (by show w.heap.size ≤ w.heap.size + 1 + 1; omega) _
  · skip
    go_enter Try.func107, Try.ntmps107
    go_wp2_with fail
    rw [← hW3]
    have HW := Lib.hid hW3
    clear hW3
    have hbW := Below.refl (w.heap.size + 1 + 1 + 1) W3
    have k0 : W3.cell? ⟨w.heap.size, 0, none⟩ = some (.bool false) := by rw [HW.out]; simp [go_sem]
    have j0 := (hbW.cell (p := ⟨w.heap.size, 0, none⟩) (by show w.heap.size < w.heap.size + 1 + 1 + 1; omega)).trans k0
    have k1 : W3.cell? ⟨w.heap.size, 1, none⟩ = some (.slice A n c) := by rw [HW.out]; simp [go_sem]
    have j1 := (hbW.cell (p := ⟨w.heap.size, 1, none⟩) (by show w.heap.size < w.heap.size + 1 + 1 + 1; omega)).trans k1
    have k2 : W3.cell? ⟨w.heap.size + 1, 0, none⟩ = some (.bool true) := by rw [HW.out]; simp [go_sem]
    have j2 := (hbW.cell (p := ⟨w.heap.size + 1, 0, none⟩) (by show w.heap.size + 1 < w.heap.size + 1 + 1 + 1; omega)).trans k2
    have k3 : W3.cell? ⟨w.heap.size + 1, 1, none⟩ = some (.slice B m d) := by rw [HW.out]; simp [go_sem]
    have j3 := (hbW.cell (p := ⟨w.heap.size + 1, 1, none⟩) (by show w.heap.size + 1 < w.heap.size + 1 + 1 + 1; omega)).trans k3
    refine Lex.wp_region_lex (fun w' => w'.cell? ⟨w.heap.size, 0, none⟩ = some (.bool false) ∧ w'.cell? ⟨w.heap.size, 1, none⟩ = some (.slice A n c) ∧ w'.cell? ⟨w.heap.size + 1, 0, none⟩ = some (.bool true) ∧ w'.cell? ⟨w.heap.size + 1, 1, none⟩ = some (.slice B m d)) (fun j => j != 4)
      [(0, true), (1, true), (2, false), (3, false), (4, false)]
      (by kernel_rfl) (by kernel_rfl) (by kernel_rfl) (by kernel_rfl) ⟨j0, j1, j2, j3⟩ ?_
    iterate 2 (refine Lex.lex_take (v := ?_) rfl rfl (by rfl) (fun _ hS => ?_) ?_; rotate_left 1; (focus (go_split_ands; go_simp; with_reducible rfl)); simp only [List.setIfInBounds_toArray, List.set_cons_zero, List.set_cons_succ])
    refine Lex.lex_do rfl ?_
    have hb0 : Below (w.heap.size + 1 + 1 + 1) W3 W3.drew := hbW.drew
    generalize W3.drew = V0 at *
    clear hbW j0 j1 j2 j3
    replace c98 := c98 _ (HB3.out.trans (hb0.mono (by omega)))
    go_wp2_with fail
    refine (c98).mono ?_
    rintro e V1 ⟨v1, rfl, hm1, hn1⟩
    have hb1 : Below (w.heap.size + 1 + 1 + 1) W3 V1 := hb0.trans (hn1.mono (by have := hb0.size; omega))
    have j0 := (hb1.cell (p := ⟨w.heap.size, 0, none⟩) (by show w.heap.size < w.heap.size + 1 + 1 + 1; omega)).trans k0
    have j1 := (hb1.cell (p := ⟨w.heap.size, 1, none⟩) (by show w.heap.size < w.heap.size + 1 + 1 + 1; omega)).trans k1
    have j2 := (hb1.cell (p := ⟨w.heap.size + 1, 0, none⟩) (by show w.heap.size + 1 < w.heap.size + 1 + 1 + 1; omega)).trans k2
    have j3 := (hb1.cell (p := ⟨w.heap.size + 1, 1, none⟩) (by show w.heap.size + 1 < w.heap.size + 1 + 1 + 1; omega)).trans k3
    clear hb0 hn1
    go_wp2_with fail
    refine Lex.lexQ_normal (fun _ => ⟨j0, j1, j2, j3⟩) ?_
    refine Lex.lex_do rfl ?_
    clear j0 j1 j2 j3
    clear c98
    replace c76 := c76 _ _ (HB3.out.trans (hb1.mono (by omega))) hm1
    go_wp2_with fail
    refine (c76).mono ?_
    rintro e V2 ⟨v2, rfl, hm2, hn2⟩
    have hb2 : Below (w.heap.size + 1 + 1 + 1) W3 V2 := hb1.trans (hn2.mono (by have := hb1.size; omega))
    have j0 := (hb2.cell (p := ⟨w.heap.size, 0, none⟩) (by show w.heap.size < w.heap.size + 1 + 1 + 1; omega)).trans k0
    have j1 := (hb2.cell (p := ⟨w.heap.size, 1, none⟩) (by show w.heap.size < w.heap.size + 1 + 1 + 1; omega)).trans k1
    have j2 := (hb2.cell (p := ⟨w.heap.size + 1, 0, none⟩) (by show w.heap.size + 1 < w.heap.size + 1 + 1 + 1; omega)).trans k2
    have j3 := (hb2.cell (p := ⟨w.heap.size + 1, 1, none⟩) (by show w.heap.size + 1 < w.heap.size + 1 + 1 + 1; omega)).trans k3
    clear hb1 hn2
    go_wp2_with fail
    refine Lex.lexQ_normal (fun _ => ⟨j0, j1, j2, j3⟩) ?_
    refine Lex.lex_do rfl ?_
    clear j0 j1 j2 j3
    obtain ⟨neg1, A1, n1, c1, m1, rfl, hmm, hzz, hpos1, _, _⟩ := hm2.open'
    have hR := HE _ hb2
    have HST := Lib.hid (hm2.stored (u0 := .bool neg1) (u1 := .slice A1 n1 c1) hR)
    have q0 : V2.cell? ⟨w.heap.size + 1 + 1, 0, none⟩ = some (.bool false) := by simp [World.cell?, hR]
    have f0 : V2.frozen? ⟨w.heap.size + 1 + 1, 0, none⟩ = false := by simp [World.frozen?, hR]
    have q1 : V2.cell? ⟨w.heap.size + 1 + 1, 1, none⟩ = some (.slice none 0 0) := by simp [World.cell?, hR]
    have f1 : V2.frozen? ⟨w.heap.size + 1 + 1, 1, none⟩ = false := by simp [World.frozen?, hR]
    have HB := Lib.hid (HB3.out.trans (hb2.mono (by omega)))
    clear hzz hpos1 hmm hm2 hb2 hR k0 k1 k2 k3
    go_wp2_with fail
    refine Lex.lexQ_normal (fun h => absurd h (by decide)) ?_
    refine Lex.lex_nil ?_
    go_wp2
    refine bodyPost_ret (v := .agg #[.bool neg1, .slice A1 n1 c1]) (by simp [results, Try.results107, go_sem, q0, q1]) rfl ⟨_, rfl, HST.out, ?_⟩
    exact (HB.out.setCell (by show w.heap.size ≤ w.heap.size + 1 + 1; omega) _).setCell (by show w.heap.size ≤ w.heap.size + 1 + 1; omega) _
  · skip
    go_enter Try.func107, Try.ntmps107
    go_wp2_with fail
    rw [← hW3]
    have HW := Lib.hid hW3
    clear hW3
    have hbW := Below.refl (w.heap.size + 1 + 1 + 1) W3
    have k0 : W3.cell? ⟨w.heap.size, 0, none⟩ = some (.bool true) := by rw [HW.out]; simp [go_sem]
    have j0 := (hbW.cell (p := ⟨w.heap.size, 0, none⟩) (by show w.heap.size < w.heap.size + 1 + 1 + 1; omega)).trans k0
    have k1 : W3.cell? ⟨w.heap.size, 1, none⟩ = some (.slice A n c) := by rw [HW.out]; simp [go_sem]
    have j1 := (hbW.cell (p := ⟨w.heap.size, 1, none⟩) (by show w.heap.size < w.heap.size + 1 + 1 + 1; omega)).trans k1
    have k2 : W3.cell? ⟨w.heap.size + 1, 0, none⟩ = some (.bool false) := by rw [HW.out]; simp [go_sem]
    have j2 := (hbW.cell (p := ⟨w.heap.size + 1, 0, none⟩) (by show w.heap.size + 1 < w.heap.size + 1 + 1 + 1; omega)).trans k2
    have k3 : W3.cell? ⟨w.heap.size + 1, 1, none⟩ = some (.slice B m d) := by rw [HW.out]; simp [go_sem]
    have j3 := (hbW.cell (p := ⟨w.heap.size + 1, 1, none⟩) (by show w.heap.size + 1 < w.heap.size + 1 + 1 + 1; omega)).trans k3
    refine Lex.wp_region_lex (fun w' => w'.cell? ⟨w.heap.size, 0, none⟩ = some (.bool true) ∧ w'.cell? ⟨w.heap.size, 1, none⟩ = some (.slice A n c) ∧ w'.cell? ⟨w.heap.size + 1, 0, none⟩ = some (.bool false) ∧ w'.cell? ⟨w.heap.size + 1, 1, none⟩ = some (.slice B m d)) (fun j => j != 4)
      [(0, true), (1, true), (2, false), (3, false), (4, false)]
      (by kernel_rfl) (by kernel_rfl) (by kernel_rfl) (by kernel_rfl) ⟨j0, j1, j2, j3⟩ ?_
    iterate 2 (refine Lex.lex_take (v := ?_) rfl rfl (by rfl) (fun _ hS => ?_) ?_; rotate_left 1; (focus (go_split_ands; go_simp; with_reducible rfl)); simp only [List.setIfInBounds_toArray, List.set_cons_zero, List.set_cons_succ])
    refine Lex.lex_do rfl ?_
    have hb0 : Below (w.heap.size + 1 + 1 + 1) W3 W3.drew := hbW.drew
    generalize W3.drew = V0 at *
    clear hbW j0 j1 j2 j3
    replace c98 := c98 _ (HB3.out.trans (hb0.mono (by omega)))
    go_wp2_with fail
    refine (c98).mono ?_
    rintro e V1 ⟨v1, rfl, hm1, hn1⟩
    have hb1 : Below (w.heap.size + 1 + 1 + 1) W3 V1 := hb0.trans (hn1.mono (by have := hb0.size; omega))
    have j0 := (hb1.cell (p := ⟨w.heap.size, 0, none⟩) (by show w.heap.size < w.heap.size + 1 + 1 + 1; omega)).trans k0
    have j1 := (hb1.cell (p := ⟨w.heap.size, 1, none⟩) (by show w.heap.size < w.heap.size + 1 + 1 + 1; omega)).trans k1
    have j2 := (hb1.cell (p := ⟨w.heap.size + 1, 0, none⟩) (by show w.heap.size + 1 < w.heap.size + 1 + 1 + 1; omega)).trans k2
    have j3 := (hb1.cell (p := ⟨w.heap.size + 1, 1, none⟩) (by show w.heap.size + 1 < w.heap.size + 1 + 1 + 1; omega)).trans k3
    clear hb0 hn1
    go_wp2_with fail
    refine Lex.lexQ_normal (fun _ => ⟨j0, j1, j2, j3⟩) ?_
    refine Lex.lex_do rfl ?_
    clear j0 j1 j2 j3
    clear c98
    replace c76 := c76 _ _ (HB3.out.trans (hb1.mono (by omega))) hm1
    go_wp2_with fail
    refine (c76).mono ?_
    rintro e V2 ⟨v2, rfl, hm2, hn2⟩
    have hb2 : Below (w.heap.size + 1 + 1 + 1) W3 V2 := hb1.trans (hn2.mono (by have := hb1.size; omega))
    have j0 := (hb2.cell (p := ⟨w.heap.size, 0, none⟩) (by show w.heap.size < w.heap.size + 1 + 1 + 1; omega)).trans k0
    have j1 := (hb2.cell (p := ⟨w.heap.size, 1, none⟩) (by show w.heap.size < w.heap.size + 1 + 1 + 1; omega)).trans k1
    have j2 := (hb2.cell (p := ⟨w.heap.size + 1, 0, none⟩) (by show w.heap.size + 1 < w.heap.size + 1 + 1 + 1; omega)).trans k2
    have j3 := (hb2.cell (p := ⟨w.heap.size + 1, 1, none⟩) (by show w.heap.size + 1 < w.heap.size + 1 + 1 + 1; omega)).trans k3
    clear hb1 hn2
    go_wp2_with fail
    refine Lex.lexQ_normal (fun _ => ⟨j0, j1, j2, j3⟩) ?_
    refine Lex.lex_do rfl ?_
    clear j0 j1 j2 j3
    obtain ⟨neg1, A1, n1, c1, m1, rfl, hmm, hzz, hpos1, _, _⟩ := hm2.open'
    have hR := HE _ hb2
    have HST := Lib.hid (hm2.stored (u0 := .bool neg1) (u1 := .slice A1 n1 c1) hR)
    have q0 : V2.cell? ⟨w.heap.size + 1 + 1, 0, none⟩ = some (.bool false) := by simp [World.cell?, hR]
    have f0 : V2.frozen? ⟨w.heap.size + 1 + 1, 0, none⟩ = false := by simp [World.frozen?, hR]
    have q1 : V2.cell? ⟨w.heap.size + 1 + 1, 1, none⟩ = some (.slice none 0 0) := by simp [World.cell?, hR]
    have f1 : V2.frozen? ⟨w.heap.size + 1 + 1, 1, none⟩ = false := by simp [World.frozen?, hR]
    have HB := Lib.hid (HB3.out.trans (hb2.mono (by omega)))
    clear hzz hpos1 hmm hm2 hb2 hR k0 k1 k2 k3
    go_wp2_with fail
    refine Lex.lexQ_normal (fun h => absurd h (by decide)) ?_
    refine Lex.lex_nil ?_
    go_wp2
    refine bodyPost_ret (v := .agg #[.bool neg1, .slice A1 n1 c1]) (by simp [results, Try.results107, go_sem, q0, q1]) rfl ⟨_, rfl, HST.out, ?_⟩
    exact (HB.out.setCell (by show w.heap.size ≤ w.heap.size + 1 + 1; omega) _).setCell (by show w.heap.size ≤ w.heap.size + 1 + 1; omega) _
  · skip
    go_enter Try.func107, Try.ntmps107
    go_wp2_with fail
    rw [← hW3]
    have HW := Lib.hid hW3
    clear hW3
    have hbW := Below.refl (w.heap.size + 1 + 1 + 1) W3
    have k0 : W3.cell? ⟨w.heap.size, 0, none⟩ = some (.bool true) := by rw [HW.out]; simp [go_sem]
    have j0 := (hbW.cell (p := ⟨w.heap.size, 0, none⟩) (by show w.heap.size < w.heap.size + 1 + 1 + 1; omega)).trans k0
    have k1 : W3.cell? ⟨w.heap.size, 1, none⟩ = some (.slice A n c) := by rw [HW.out]; simp [go_sem]
    have j1 := (hbW.cell (p := ⟨w.heap.size, 1, none⟩) (by show w.heap.size < w.heap.size + 1 + 1 + 1; omega)).trans k1
    have k2 : W3.cell? ⟨w.heap.size + 1, 0, none⟩ = some (.bool true) := by rw [HW.out]; simp [go_sem]
    have j2 := (hbW.cell (p := ⟨w.heap.size + 1, 0, none⟩) (by show w.heap.size + 1 < w.heap.size + 1 + 1 + 1; omega)).trans k2
    have k3 : W3.cell? ⟨w.heap.size + 1, 1, none⟩ = some (.slice B m d) := by rw [HW.out]; simp [go_sem]
    have j3 := (hbW.cell (p := ⟨w.heap.size + 1, 1, none⟩) (by show w.heap.size + 1 < w.heap.size + 1 + 1 + 1; omega)).trans k3
    refine Lex.wp_region_lex (fun w' => w'.cell? ⟨w.heap.size, 0, none⟩ = some (.bool true) ∧ w'.cell? ⟨w.heap.size, 1, none⟩ = some (.slice A n c) ∧ w'.cell? ⟨w.heap.size + 1, 0, none⟩ = some (.bool true) ∧ w'.cell? ⟨w.heap.size + 1, 1, none⟩ = some (.slice B m d)) (fun j => j != 4)
      [(0, true), (1, true), (2, false), (3, false), (4, false)]
      (by kernel_rfl) (by kernel_rfl) (by kernel_rfl) (by kernel_rfl) ⟨j0, j1, j2, j3⟩ ?_
    iterate 2 (refine Lex.lex_take (v := ?_) rfl rfl (by rfl) (fun _ hS => ?_) ?_; rotate_left 1; (focus (go_split_ands; go_simp; with_reducible rfl)); simp only [List.setIfInBounds_toArray, List.set_cons_zero, List.set_cons_succ])
    refine Lex.lex_do rfl ?_
    have hb0 : Below (w.heap.size + 1 + 1 + 1) W3 W3.drew := hbW.drew
    generalize W3.drew = V0 at *
    clear hbW j0 j1 j2 j3
    replace c98 := c98 _ (HB3.out.trans (hb0.mono (by omega)))
    go_wp2_with fail
    refine (c98).mono ?_
    rintro e V1 ⟨v1, rfl, hm1, hn1⟩
    have hb1 : Below (w.heap.size + 1 + 1 + 1) W3 V1 := hb0.trans (hn1.mono (by have := hb0.size; omega))
    have j0 := (hb1.cell (p := ⟨w.heap.size, 0, none⟩) (by show w.heap.size < w.heap.size + 1 + 1 + 1; omega)).trans k0
    have j1 := (hb1.cell (p := ⟨w.heap.size, 1, none⟩) (by show w.heap.size < w.heap.size + 1 + 1 + 1; omega)).trans k1
    have j2 := (hb1.cell (p := ⟨w.heap.size + 1, 0, none⟩) (by show w.heap.size + 1 < w.heap.size + 1 + 1 + 1; omega)).trans k2
    have j3 := (hb1.cell (p := ⟨w.heap.size + 1, 1, none⟩) (by show w.heap.size + 1 < w.heap.size + 1 + 1 + 1; omega)).trans k3
    clear hb0 hn1
    go_wp2_with fail
    refine Lex.lexQ_normal (fun _ => ⟨j0, j1, j2, j3⟩) ?_
    refine Lex.lex_do rfl ?_
    clear j0 j1 j2 j3
    clear c98
    replace c76 := c76 _ _ (HB3.out.trans (hb1.mono (by omega))) hm1
    go_wp2_with fail
    refine (c76).mono ?_
    rintro e V2 ⟨v2, rfl, hm2, hn2⟩
    have hb2 : Below (w.heap.size + 1 + 1 + 1) W3 V2 := hb1.trans (hn2.mono (by have := hb1.size; omega))
    have j0 := (hb2.cell (p := ⟨w.heap.size, 0, none⟩) (by show w.heap.size < w.heap.size + 1 + 1 + 1; omega)).trans k0
    have j1 := (hb2.cell (p := ⟨w.heap.size, 1, none⟩) (by show w.heap.size < w.heap.size + 1 + 1 + 1; omega)).trans k1
    have j2 := (hb2.cell (p := ⟨w.heap.size + 1, 0, none⟩) (by show w.heap.size + 1 < w.heap.size + 1 + 1 + 1; omega)).trans k2
    have j3 := (hb2.cell (p := ⟨w.heap.size + 1, 1, none⟩) (by show w.heap.size + 1 < w.heap.size + 1 + 1 + 1; omega)).trans k3
    clear hb1 hn2
    go_wp2_with fail
    refine Lex.lexQ_normal (fun _ => ⟨j0, j1, j2, j3⟩) ?_
    refine Lex.lex_do rfl ?_
    clear j0 j1 j2 j3
    obtain ⟨neg1, A1, n1, c1, m1, rfl, hmm, hzz, hpos1, _, _⟩ := hm2.open'
    have hR := HE _ hb2
    have HST := Lib.hid (hm2.stored (u0 := .bool neg1) (u1 := .slice A1 n1 c1) hR)
    have q0 : V2.cell? ⟨w.heap.size + 1 + 1, 0, none⟩ = some (.bool false) := by simp [World.cell?, hR]
    have f0 : V2.frozen? ⟨w.heap.size + 1 + 1, 0, none⟩ = false := by simp [World.frozen?, hR]
    have q1 : V2.cell? ⟨w.heap.size + 1 + 1, 1, none⟩ = some (.slice none 0 0) := by simp [World.cell?, hR]
    have f1 : V2.frozen? ⟨w.heap.size + 1 + 1, 1, none⟩ = false := by simp [World.frozen?, hR]
    have HB := Lib.hid (HB3.out.trans (hb2.mono (by omega)))
    clear hzz hpos1 hmm hm2 hb2 hR k0 k1 k2 k3
    go_wp2_with fail
    refine Lex.lexQ_normal (fun h => absurd h (by decide)) ?_
    refine Lex.lex_nil ?_
    go_wp2
    refine bodyPost_ret (v := .agg #[.bool neg1, .slice A1 n1 c1]) (by simp [results, Try.results107, go_sem, q0, q1]) rfl ⟨_, rfl, HST.out, ?_⟩
    exact (HB.out.setCell (by show w.heap.size ≤ w.heap.size + 1 + 1; omega) _).setCell (by show w.heap.size ≤ w.heap.size + 1 + 1; omega) _

set_option maxRecDepth 100000 in
set_option maxHeartbeats 1600000 in
theorem zcmp_any {w : World} {u v : Value} {x y : Int} {N M : Nat} (hu : IsZ w u x N) (hv : IsZ w v y M) (hN : N ≤ 999) (hM : M ≤ 999) :
    Calls Try.prog 83 #[u, v] w (RetV (.int .i64 (sgn (x - y))) w) := by
  have c107 : ∀ W, Below w.heap.size w W → Calls Try.prog 107 #[u, v] W (RetZ (x - y) (max N M + 1) W) := fun W hb => sub_any (hu.below hb) (hv.below hb) hN hM
  have c108 : ∀ W v1, IsZ W v1 (x - y) (max N M + 1) → Calls Try.prog 108 #[v1] W (RetV (.int .i64 (sgn (x - y))) W) := fun W v1 h => sign_any v1 _ _ W h (by omega)
  obtain ⟨na, A, n, c, a, rfl, -, -, -, -⟩ := hu.open'
  obtain ⟨nb, B, m, d, b, rfl, -, -, -, -⟩ := hv.open'
  clear hu hv
  have hB : Below w.heap.size w ((w.alloc (.cells #[.bool na, .slice A n c] 83)).alloc (.cells #[.bool nb, .slice B m d] 83)) := ((Below.refl _ _).alloc (Nat.le_refl _) _).alloc (by simp) _
  have c1 := c107 _ hB
  have HB := Lib.hid hB
  clear c107 hB
  rcases na with _ | _ <;> rcases nb with _ | _
  · skip
    go_enter Try.func83, Try.ntmps83
    go_wp2_with fail
    refine c1.mono ?_
    rintro e w1 ⟨v1, rfl, hz1, hb1⟩
    have c2 := c108 _ _ hz1
    have HB2 := Lib.hid (HB.out.trans (hb1.mono HB.out.size))
    clear c1 c108 hz1 hb1
    go_wp2_with fail
    refine c2.mono ?_
    rintro e w2 ⟨rfl, hb2⟩
    have HB3 := Lib.hid (HB2.out.trans (hb2.mono HB2.out.size))
    clear hb2
    go_wp2_with fail
    go_ret
    exact ⟨rfl, HB3.out⟩
  · skip
    go_enter Try.func83, Try.ntmps83
    go_wp2_with fail
    refine c1.mono ?_
    rintro e w1 ⟨v1, rfl, hz1, hb1⟩
    have c2 := c108 _ _ hz1
    have HB2 := Lib.hid (HB.out.trans (hb1.mono HB.out.size))
    clear c1 c108 hz1 hb1
    go_wp2_with fail
    refine c2.mono ?_
    rintro e w2 ⟨rfl, hb2⟩
    have HB3 := Lib.hid (HB2.out.trans (hb2.mono HB2.out.size))
    clear hb2
    go_wp2_with fail
    go_ret
    exact ⟨rfl, HB3.out⟩
  · skip
    go_enter Try.func83, Try.ntmps83
    go_wp2_with fail
    refine c1.mono ?_
    rintro e w1 ⟨v1, rfl, hz1, hb1⟩
    have c2 := c108 _ _ hz1
    have HB2 := Lib.hid (HB.out.trans (hb1.mono HB.out.size))
    clear c1 c108 hz1 hb1
    go_wp2_with fail
    refine c2.mono ?_
    rintro e w2 ⟨rfl, hb2⟩
    have HB3 := Lib.hid (HB2.out.trans (hb2.mono HB2.out.size))
    clear hb2
    go_wp2_with fail
    go_ret
    exact ⟨rfl, HB3.out⟩
  · skip
    go_enter Try.func83, Try.ntmps83
    go_wp2_with fail
    refine c1.mono ?_
    rintro e w1 ⟨v1, rfl, hz1, hb1⟩
    have c2 := c108 _ _ hz1
    have HB2 := Lib.hid (HB.out.trans (hb1.mono HB.out.size))
    clear c1 c108 hz1 hb1
    go_wp2_with fail
    refine c2.mono ?_
    rintro e w2 ⟨rfl, hb2⟩
    have HB3 := Lib.hid (HB2.out.trans (hb2.mono HB2.out.size))
    clear hb2
    go_wp2_with fail
    go_ret
    exact ⟨rfl, HB3.out⟩

end Go.Proofs.Ytklngjjokbhfpaa
