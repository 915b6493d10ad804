/- ref's Neg, Abs, Sign, Add, Sub, Cmp (printed by gence.py). -/
import Derived.Test.YtklngjjokbhfpaaGreatDoorPkCc
namespace Go.Proofs.YtklngjjokbhfpaaGreatDoor
open Go.RowKit

/-- Digits, perhaps with zeros behind, of a value. -/
def IsD (w : World) (v : Value) (z : Int) (N : Nat) : Prop := ∃ zs, Digs w v zs ∧ DG.dv DG.b4 zs = z ∧ zs.length ≤ N
theorem IsD.below {w w' : World} {v : Value} {z : Int} {N : Nat} (h : IsD w v z N) (hb : Below w.heap.size w w') : IsD w' v z N := by
  obtain ⟨zs, ⟨A, n, c, h1, h2, h3, h4, h5, h6, h7⟩, h8⟩ := h
  exact ⟨zs, ⟨A, n, c, h1, h2, h3, h4, h5, h6.below hb, h7⟩, h8⟩
theorem IsD.open' {w : World} {v : Value} {z : Int} {N : Nat} (h : IsD w v z N) : ∃ (A : Option Addr) (n c : Nat), v = .slice A n c := by
  obtain ⟨zs, ⟨A, n, c, h1, h2⟩, h8⟩ := h
  exact ⟨A, n, c, h1⟩
theorem RMag.isD {w : World} {v : Value} {z : Int} {N : Nat} (h : RMag w v z N) : IsD w v z N := by
  obtain ⟨A, n, c, xs, h1, h2, h3, h4, h5, h6, h7, h8, h9, h10⟩ := h
  exact ⟨xs, ⟨A, n, c, h1, h2, h3, h4, h5, h6, h7⟩, h9, by omega⟩
def RetDD (z : Int) (N : Nat) (w : World) (e : Ending) (w' : World) : Prop := ∃ v, e = .returned v ∧ IsD w' v z N ∧ Below w.heap.size w w'
theorem RetD.dd {z : Int} {N : Nat} {w w' : World} {e : Ending} (h : RetD z N w e w') : RetDD z N w e w' := by
  obtain ⟨v, zs, h1, h2, h3, h4, h5⟩ := h
  exact ⟨v, h1, ⟨zs, h2, h3, h4⟩, h5⟩
theorem lean_isd (neg : Bool) {v : Value} {z : Int} {N : Nat} (w : World) (h : IsD w v z N) (hN : N ≤ 1000) : Calls Tryz.prog 45 #[.agg #[.bool neg, v]] w (RetR (if neg then -z else z) N w) := by
  obtain ⟨zs, h1, rfl, h3⟩ := h
  exact (lean_any neg w h1 (by omega)).mono fun e w' ⟨v, g1, g2, g3⟩ => ⟨v, g1, g2.more h3, g3⟩
/-- The stored result of a row of calls: what follows the last call. -/
theorem res_rcell {w w1 : World} {s R : Nat} {o1 o2 : Obj} (hs : R = s + 2) (hw : w.heap.size = s) (hb : Below (s + 3) (((w.alloc o1).alloc o2).alloc (.cells #[.bool false, .slice none 0 0] 43)) w1) :
    w1.heap[R]? = some (.cells #[.bool false, .slice none 0 0] 43 (0, 0)) := by
  subst hs hw
  exact (hb.block (w.heap.size + 2) (by omega)).trans (heap_alloc_new' _ (.cells #[.bool false, .slice none 0 0] 43) (by simp))

set_option maxRecDepth 100000 in
set_option maxHeartbeats 1600000 in
theorem rneg_any {w : World} {v : Value} {z : Int} {N : Nat} (hv : IsR w v z N) :
    Calls Tryz.prog 55 #[v] w (RetR (-z) N w) := by
  obtain ⟨neg, A, n, c, m, rfl, hm, hz, hpos, hn, hnz⟩ := hv.open'
  have hnn := hm.nonneg
  clear hv
  cases neg with
  | true =>
    have HM := Lib.hid hm
    have HP := Lib.hid hpos
    have HZ := Lib.hid hz
    have HNN := Lib.hid hnn
    have HNZ := Lib.hid hnz
    clear hm hpos hz hnn hnz
    go_enter Tryz.func55, Tryz.ntmps55
    go_wp2
    refine bodyPost_ret (v := .agg #[.bool false, .slice A n c]) (by simp [results, Tryz.results55, go_sem]) rfl ?_
    have hbf : Below w.heap.size w ((w.alloc (.cells #[.bool false, .slice A n c] 43)).alloc (.cells #[.bool false, .slice A n c] 43)) := ((Below.refl _ _).alloc (Nat.le_refl _) _).alloc (by simp) _
    have hzz := HZ.out
    have hpp := HP.out
    have hnz := HNZ.out
    have hnn := HNN.out
    refine ⟨_, rfl, ⟨false, _, m, rfl, HM.out.below hbf, ?_, ?_⟩, hbf⟩
    · simp at hzz ⊢; omega
    · intro h; cases h
  | false =>
    by_cases h0 : n = 0
    · skip
      subst h0
      have e1 : ((0 : Nat) : Int) = 0 := rfl
      have HM := Lib.hid hm
      have HP := Lib.hid hpos
      have HZ := Lib.hid hz
      have HNN := Lib.hid hnn
      have HNZ := Lib.hid hnz
      clear hm hpos hz hnn hnz
      go_enter Tryz.func55, Tryz.ntmps55
      go_wp2
      refine bodyPost_ret (v := .agg #[.bool false, .slice A 0 c]) (by simp [results, Tryz.results55, go_sem]) rfl ?_
      have hbf : Below w.heap.size w ((w.alloc (.cells #[.bool false, .slice A 0 c] 43)).alloc (.cells #[.bool false, .slice A 0 c] 43)) := ((Below.refl _ _).alloc (Nat.le_refl _) _).alloc (by simp) _
      have hzz := HZ.out
      have hpp := HP.out
      have hnz := HNZ.out
      have hnn := HNN.out
      refine ⟨_, rfl, ⟨false, _, m, rfl, HM.out.below hbf, ?_, ?_⟩, hbf⟩

      · simp at hzz hnz ⊢; omega
      · intro h; cases h
    · have hp : 0 < n := by omega
      have d1 : decide (0 < n) = true := decide_eq_true hp
      have d2 : decide ((0 : Int) < (n : Int)) = true := decide_eq_true (by omega)
      have HM := Lib.hid hm
      have HP := Lib.hid hpos
      have HZ := Lib.hid hz
      have HNN := Lib.hid hnn
      have HNZ := Lib.hid hnz
      clear hm hpos hz hnn hnz
      go_enter Tryz.func55, Tryz.ntmps55
      go_wp2
      refine bodyPost_ret (v := .agg #[.bool true, .slice A n c]) (by simp [results, Tryz.results55, go_sem]) rfl ?_
      have hbf : Below w.heap.size w ((w.alloc (.cells #[.bool true, .slice A n c] 43)).alloc (.cells #[.bool true, .slice A n c] 43)) := ((Below.refl _ _).alloc (Nat.le_refl _) _).alloc (by simp) _
      have hzz := HZ.out
      have hpp := HP.out
      have hnz := HNZ.out
      have hnn := HNN.out
      refine ⟨_, rfl, ⟨true, _, m, rfl, HM.out.below hbf, ?_, ?_⟩, hbf⟩

      · simp at hzz ⊢; omega
      · intro _; omega

set_option maxRecDepth 100000 in
set_option maxHeartbeats 1600000 in
theorem rabs_any {w : World} {v : Value} {z : Int} {N : Nat} (hv : IsR w v z N) :
    Calls Tryz.prog 35 #[v] w (RetR (z.natAbs : Int) N w) := by
  obtain ⟨neg, A, n, c, m, rfl, hm, hz, hpos, hn, hnz⟩ := hv.open'
  have hnn := hm.nonneg
  clear hv
  cases neg with
  | true =>
    have HM := Lib.hid hm
    have HP := Lib.hid hpos
    have HZ := Lib.hid hz
    have HNN := Lib.hid hnn
    have HNZ := Lib.hid hnz
    clear hm hpos hz hnn hnz
    go_enter Tryz.func35, Tryz.ntmps35
    go_wp2
    refine bodyPost_ret (v := .agg #[.bool false, .slice A n c]) (by simp [results, Tryz.results35, go_sem]) rfl ?_
    have hbf : Below w.heap.size w ((w.alloc (.cells #[.bool false, .slice A n c] 43)).alloc (.cells #[.bool false, .slice A n c] 43)) := ((Below.refl _ _).alloc (Nat.le_refl _) _).alloc (by simp) _
    have hzz := HZ.out
    have hpp := HP.out
    have hnz := HNZ.out
    have hnn := HNN.out
    refine ⟨_, rfl, ⟨false, _, m, rfl, HM.out.below hbf, ?_, ?_⟩, hbf⟩
    · simp at hzz ⊢; omega
    · intro h; cases h
  | false =>
    have HM := Lib.hid hm
    have HP := Lib.hid hpos
    have HZ := Lib.hid hz
    have HNN := Lib.hid hnn
    have HNZ := Lib.hid hnz
    clear hm hpos hz hnn hnz
    go_enter Tryz.func35, Tryz.ntmps35
    go_wp2
    refine bodyPost_ret (v := .agg #[.bool false, .slice A n c]) (by simp [results, Tryz.results35, go_sem]) rfl ?_
    have hbf : Below w.heap.size w ((w.alloc (.cells #[.bool false, .slice A n c] 43)).alloc (.cells #[.bool false, .slice A n c] 43)) := ((Below.refl _ _).alloc (Nat.le_refl _) _).alloc (by simp) _
    have hzz := HZ.out
    have hpp := HP.out
    have hnz := HNZ.out
    have hnn := HNN.out
    refine ⟨_, rfl, ⟨false, _, m, rfl, HM.out.below hbf, ?_, ?_⟩, hbf⟩
    · simp at hzz ⊢; omega
    · intro h; cases h

set_option maxRecDepth 100000 in
set_option maxHeartbeats 1600000 in
theorem rsign_any {w : World} {v : Value} {z : Int} {N : Nat} (hv : IsR w v z N) :
    Calls Tryz.prog 33 #[v] w (RetV (.int .i64 (sgn z)) w) := by
  obtain ⟨neg, A, n, c, m, rfl, hm, hz, hpos, hn, hnz⟩ := hv.open'
  have hnn := hm.nonneg
  have hs : sgn z = if n = 0 then 0 else if neg = true then -1 else 1 := by
    unfold sgn
    cases neg with
    | false =>
      simp only [Bool.false_eq_true, if_false] at hz ⊢
      split <;> split <;> first | omega | (split <;> omega) | rfl
    | true =>
      have := hpos rfl
      simp only [if_true] at hz ⊢
      split <;> split <;> first | omega | (split <;> omega) | rfl
  have HS := Lib.hid hs
  have HB : ∀ x, Below w.heap.size w (w.alloc x) := fun x => (Below.refl _ _).alloc (Nat.le_refl _) x
  clear hv hm hz hnz hs hnn
  by_cases h0 : n = 0
  · subst h0
    have e1 : ((0 : Nat) : Int) = 0 := rfl
    go_enter Tryz.func33, Tryz.ntmps33
    go_wp2
    go_ret
    exact ⟨by rw [HS.out]; rfl, HB _⟩
  · have hp : 0 < n := by omega
    have e1 : ((n : Int) == 0) = false := by simp; omega
    have e2 : (n == 0) = false := by simp; omega
    cases neg with
    | false =>
      go_enter Tryz.func33, Tryz.ntmps33
      go_wp2
      go_ret
      exact ⟨by rw [HS.out, if_neg (by omega)]; rfl, HB _⟩
    | true =>
      go_enter Tryz.func33, Tryz.ntmps33
      go_wp2
      go_ret
      exact ⟨by rw [HS.out, if_neg (by omega)]; rfl, HB _⟩

set_option maxRecDepth 100000 in
set_option maxHeartbeats 1600000 in
theorem radd_same (nb : Bool) (A : Option Addr) (n c : Nat) (B : Option Addr) (m d : Nat) (x y : Int) (N M : Nat) (w : World) (hx : RMag w (.slice A n c) x N) (hy : RMag w (.slice B m d) y M) (hN : N ≤ 999) (hM : M ≤ 999) :
    Calls Tryz.prog 52 #[.agg #[.bool nb, .slice A n c], .agg #[.bool nb, .slice B m d]] w (RetR (if nb then -(x + y) else x + y) (max N M + 1) w) := by
  have cp : ∀ W, Below w.heap.size w W → Calls Tryz.prog 73 #[.slice A n c, .slice B m d] W (RetDD (x + y) (max N M + 1) W) := fun W hb => (rplus_any (hx.below hb) (hy.below hb) (by omega) (by omega)).mono fun e w' h => h.dd
  have cl := fun (v : Value) (W : World) (h : IsD W v (x + y) (max N M + 1)) => lean_isd nb W h (by omega)
  clear hx hy
  have hB : Below w.heap.size w (((w.alloc (.cells #[.bool nb, .slice A n c] 43)).alloc (.cells #[.bool nb, .slice B m d] 43)).alloc (.cells #[.bool false, .slice none 0 0] 43)) := (((Below.refl _ _).alloc (Nat.le_refl _) _).alloc (by simp) _).alloc (by simp; omega) _
  obtain ⟨W3, hW3⟩ : ∃ W3, W3 = ((w.alloc (.cells #[.bool nb, .slice A n c] 43)).alloc (.cells #[.bool nb, .slice B m d] 43)).alloc (.cells #[.bool false, .slice none 0 0] 43) := ⟨_, rfl⟩
  have hs3 : W3.heap.size = w.heap.size + 1 + 1 + 1 := by rw [hW3]; simp
  have HE : ∀ W, Below (w.heap.size + 1 + 1 + 1) W3 W → W.heap[w.heap.size + 1 + 1]? = some (.cells #[.bool false, .slice none 0 0] 43 (0, 0)) := fun W hb => res_rcell rfl rfl (hW3 ▸ hb)
  rw [← hW3] at hB
  have HB3 := Lib.hid hB
  clear hB
  rcases nb with _ | _
  · go_enter Tryz.func52, Tryz.ntmps52
    go_wp2_with fail
    rw [← hW3]
    have HW := Lib.hid hW3
    clear hW3
    have hbW := Below.refl (w.heap.size + 1 + 1 + 1) W3
    have k0 : W3.cell? ⟨w.heap.size, 0, none⟩ = some (.bool false) := by rw [HW.out]; simp [go_sem]
    have j0 := (hbW.cell (p := ⟨w.heap.size, 0, none⟩) (by show w.heap.size < w.heap.size + 1 + 1 + 1; omega)).trans k0
    have k1 : W3.cell? ⟨w.heap.size, 1, none⟩ = some (.slice A n c) := by rw [HW.out]; simp [go_sem]
    have j1 := (hbW.cell (p := ⟨w.heap.size, 1, none⟩) (by show w.heap.size < w.heap.size + 1 + 1 + 1; omega)).trans k1
    have k2 : W3.cell? ⟨w.heap.size + 1, 1, none⟩ = some (.slice B m d) := by rw [HW.out]; simp [go_sem]
    have j2 := (hbW.cell (p := ⟨w.heap.size + 1, 1, none⟩) (by show w.heap.size + 1 < w.heap.size + 1 + 1 + 1; omega)).trans k2
    refine Lex.wp_region_lex (fun w' => w'.cell? ⟨w.heap.size, 0, none⟩ = some (.bool false) ∧ w'.cell? ⟨w.heap.size, 1, none⟩ = some (.slice A n c) ∧ w'.cell? ⟨w.heap.size + 1, 1, none⟩ = some (.slice B m d)) (fun j => j != 9)
      [(0, true), (1, true), (2, true), (3, true), (4, true), (5, true), (6, false), (7, false), (8, false), (9, false)]
      (by kernel_rfl) (by kernel_rfl) (by kernel_rfl) (by kernel_rfl) ⟨j0, j1, j2⟩ ?_
    iterate 6 (refine Lex.lex_take (v := ?_) rfl rfl (by rfl) (fun _ hS => ?_) ?_; rotate_left 1; (focus (go_split_ands; go_simp; with_reducible rfl)); simp only [List.setIfInBounds_toArray, List.set_cons_zero, List.set_cons_succ])
    refine Lex.lex_do rfl ?_
    have hb0 : Below (w.heap.size + 1 + 1 + 1) W3 W3.drew := hbW.drew
    generalize W3.drew = V0 at *
    clear hbW j0 j1 j2
    have c := cp _ (HB3.out.trans (hb0.mono (by omega)))
    clear cp
    go_wp2_with fail
    refine (c).mono ?_
    rintro e V1 ⟨v1, rfl, hm1, hn1⟩
    have hb1 : Below (w.heap.size + 1 + 1 + 1) W3 V1 := hb0.trans (hn1.mono (by have := hb0.size; omega))
    have hn1 := Lib.hid hn1
    go_wp2_with fail
    have j0 := (hb1.cell (p := ⟨w.heap.size, 0, none⟩) (by show w.heap.size < w.heap.size + 1 + 1 + 1; omega)).trans k0
    have j1 := (hb1.cell (p := ⟨w.heap.size, 1, none⟩) (by show w.heap.size < w.heap.size + 1 + 1 + 1; omega)).trans k1
    have j2 := (hb1.cell (p := ⟨w.heap.size + 1, 1, none⟩) (by show w.heap.size + 1 < w.heap.size + 1 + 1 + 1; omega)).trans k2
    refine Lex.lexQ_normal (fun _ => ⟨j0, j1, j2⟩) ?_
    refine Lex.lex_do rfl ?_
    clear j0 j1 j2
    clear c
    obtain ⟨A3, n3, c3, rfl⟩ := hm1.open'
    go_wp2_with fail
    have j0 := (hb1.cell (p := ⟨w.heap.size, 0, none⟩) (by show w.heap.size < w.heap.size + 1 + 1 + 1; omega)).trans k0
    have j1 := (hb1.cell (p := ⟨w.heap.size, 1, none⟩) (by show w.heap.size < w.heap.size + 1 + 1 + 1; omega)).trans k1
    have j2 := (hb1.cell (p := ⟨w.heap.size + 1, 1, none⟩) (by show w.heap.size + 1 < w.heap.size + 1 + 1 + 1; omega)).trans k2
    refine Lex.lexQ_normal (fun _ => ⟨j0, j1, j2⟩) ?_
    refine Lex.lex_do rfl ?_
    clear j0 j1 j2
    have c := cl _ _ hm1
    go_wp2_with fail
    refine (c).mono ?_
    rintro e V2 ⟨v2, rfl, hm2, hn2⟩
    have hb2 : Below (w.heap.size + 1 + 1 + 1) W3 V2 := hb1.trans (hn2.mono (by have := hb1.size; omega))
    have hn2 := Lib.hid hn2
    go_wp2_with fail
    have j0 := (hb2.cell (p := ⟨w.heap.size, 0, none⟩) (by show w.heap.size < w.heap.size + 1 + 1 + 1; omega)).trans k0
    have j1 := (hb2.cell (p := ⟨w.heap.size, 1, none⟩) (by show w.heap.size < w.heap.size + 1 + 1 + 1; omega)).trans k1
    have j2 := (hb2.cell (p := ⟨w.heap.size + 1, 1, none⟩) (by show w.heap.size + 1 < w.heap.size + 1 + 1 + 1; omega)).trans k2
    refine Lex.lexQ_normal (fun _ => ⟨j0, j1, j2⟩) ?_
    refine Lex.lex_do rfl ?_
    clear j0 j1 j2
    obtain ⟨neg1, A1, n1, c1, m1, rfl, hmm, hzz, hpos1, _, _⟩ := hm2.open'
    have hR := HE _ hb2
    have HST := Lib.hid (hm2.stored (u0 := .bool neg1) (u1 := .slice A1 n1 c1) hR)
    have q0 : V2.cell? ⟨w.heap.size + 1 + 1, 0, none⟩ = some (.bool false) := by simp [World.cell?, hR]
    have f0 : V2.frozen? ⟨w.heap.size + 1 + 1, 0, none⟩ = false := by simp [World.frozen?, hR]
    have q1 : V2.cell? ⟨w.heap.size + 1 + 1, 1, none⟩ = some (.slice none 0 0) := by simp [World.cell?, hR]
    have f1 : V2.frozen? ⟨w.heap.size + 1 + 1, 1, none⟩ = false := by simp [World.frozen?, hR]
    have HB := Lib.hid (HB3.out.trans (hb2.mono (by omega)))
    clear hzz hpos1 hmm hm2 hb2 hR
    go_wp2_with fail
    refine Lex.lexQ_normal (fun h => absurd h (by decide)) ?_
    refine Lex.lex_nil ?_
    go_wp2
    refine bodyPost_ret (v := .agg #[.bool neg1, .slice A1 n1 c1]) (by simp [results, Tryz.results52, go_sem, q0, q1]) rfl ⟨_, rfl, HST.out, ?_⟩
    exact (HB.out.setCell (by show w.heap.size ≤ w.heap.size + 1 + 1; omega) _).setCell (by show w.heap.size ≤ w.heap.size + 1 + 1; omega) _
  · go_enter Tryz.func52, Tryz.ntmps52
    go_wp2_with fail
    rw [← hW3]
    have HW := Lib.hid hW3
    clear hW3
    have hbW := Below.refl (w.heap.size + 1 + 1 + 1) W3
    have k0 : W3.cell? ⟨w.heap.size, 0, none⟩ = some (.bool true) := by rw [HW.out]; simp [go_sem]
    have j0 := (hbW.cell (p := ⟨w.heap.size, 0, none⟩) (by show w.heap.size < w.heap.size + 1 + 1 + 1; omega)).trans k0
    have k1 : W3.cell? ⟨w.heap.size, 1, none⟩ = some (.slice A n c) := by rw [HW.out]; simp [go_sem]
    have j1 := (hbW.cell (p := ⟨w.heap.size, 1, none⟩) (by show w.heap.size < w.heap.size + 1 + 1 + 1; omega)).trans k1
    have k2 : W3.cell? ⟨w.heap.size + 1, 1, none⟩ = some (.slice B m d) := by rw [HW.out]; simp [go_sem]
    have j2 := (hbW.cell (p := ⟨w.heap.size + 1, 1, none⟩) (by show w.heap.size + 1 < w.heap.size + 1 + 1 + 1; omega)).trans k2
    refine Lex.wp_region_lex (fun w' => w'.cell? ⟨w.heap.size, 0, none⟩ = some (.bool true) ∧ w'.cell? ⟨w.heap.size, 1, none⟩ = some (.slice A n c) ∧ w'.cell? ⟨w.heap.size + 1, 1, none⟩ = some (.slice B m d)) (fun j => j != 9)
      [(0, true), (1, true), (2, true), (3, true), (4, true), (5, true), (6, false), (7, false), (8, false), (9, false)]
      (by kernel_rfl) (by kernel_rfl) (by kernel_rfl) (by kernel_rfl) ⟨j0, j1, j2⟩ ?_
    iterate 6 (refine Lex.lex_take (v := ?_) rfl rfl (by rfl) (fun _ hS => ?_) ?_; rotate_left 1; (focus (go_split_ands; go_simp; with_reducible rfl)); simp only [List.setIfInBounds_toArray, List.set_cons_zero, List.set_cons_succ])
    refine Lex.lex_do rfl ?_
    have hb0 : Below (w.heap.size + 1 + 1 + 1) W3 W3.drew := hbW.drew
    generalize W3.drew = V0 at *
    clear hbW j0 j1 j2
    have c := cp _ (HB3.out.trans (hb0.mono (by omega)))
    clear cp
    go_wp2_with fail
    refine (c).mono ?_
    rintro e V1 ⟨v1, rfl, hm1, hn1⟩
    have hb1 : Below (w.heap.size + 1 + 1 + 1) W3 V1 := hb0.trans (hn1.mono (by have := hb0.size; omega))
    have hn1 := Lib.hid hn1
    go_wp2_with fail
    have j0 := (hb1.cell (p := ⟨w.heap.size, 0, none⟩) (by show w.heap.size < w.heap.size + 1 + 1 + 1; omega)).trans k0
    have j1 := (hb1.cell (p := ⟨w.heap.size, 1, none⟩) (by show w.heap.size < w.heap.size + 1 + 1 + 1; omega)).trans k1
    have j2 := (hb1.cell (p := ⟨w.heap.size + 1, 1, none⟩) (by show w.heap.size + 1 < w.heap.size + 1 + 1 + 1; omega)).trans k2
    refine Lex.lexQ_normal (fun _ => ⟨j0, j1, j2⟩) ?_
    refine Lex.lex_do rfl ?_
    clear j0 j1 j2
    clear c
    obtain ⟨A3, n3, c3, rfl⟩ := hm1.open'
    go_wp2_with fail
    have j0 := (hb1.cell (p := ⟨w.heap.size, 0, none⟩) (by show w.heap.size < w.heap.size + 1 + 1 + 1; omega)).trans k0
    have j1 := (hb1.cell (p := ⟨w.heap.size, 1, none⟩) (by show w.heap.size < w.heap.size + 1 + 1 + 1; omega)).trans k1
    have j2 := (hb1.cell (p := ⟨w.heap.size + 1, 1, none⟩) (by show w.heap.size + 1 < w.heap.size + 1 + 1 + 1; omega)).trans k2
    refine Lex.lexQ_normal (fun _ => ⟨j0, j1, j2⟩) ?_
    refine Lex.lex_do rfl ?_
    clear j0 j1 j2
    have c := cl _ _ hm1
    go_wp2_with fail
    refine (c).mono ?_
    rintro e V2 ⟨v2, rfl, hm2, hn2⟩
    have hb2 : Below (w.heap.size + 1 + 1 + 1) W3 V2 := hb1.trans (hn2.mono (by have := hb1.size; omega))
    have hn2 := Lib.hid hn2
    go_wp2_with fail
    have j0 := (hb2.cell (p := ⟨w.heap.size, 0, none⟩) (by show w.heap.size < w.heap.size + 1 + 1 + 1; omega)).trans k0
    have j1 := (hb2.cell (p := ⟨w.heap.size, 1, none⟩) (by show w.heap.size < w.heap.size + 1 + 1 + 1; omega)).trans k1
    have j2 := (hb2.cell (p := ⟨w.heap.size + 1, 1, none⟩) (by show w.heap.size + 1 < w.heap.size + 1 + 1 + 1; omega)).trans k2
    refine Lex.lexQ_normal (fun _ => ⟨j0, j1, j2⟩) ?_
    refine Lex.lex_do rfl ?_
    clear j0 j1 j2
    obtain ⟨neg1, A1, n1, c1, m1, rfl, hmm, hzz, hpos1, _, _⟩ := hm2.open'
    have hR := HE _ hb2
    have HST := Lib.hid (hm2.stored (u0 := .bool neg1) (u1 := .slice A1 n1 c1) hR)
    have q0 : V2.cell? ⟨w.heap.size + 1 + 1, 0, none⟩ = some (.bool false) := by simp [World.cell?, hR]
    have f0 : V2.frozen? ⟨w.heap.size + 1 + 1, 0, none⟩ = false := by simp [World.frozen?, hR]
    have q1 : V2.cell? ⟨w.heap.size + 1 + 1, 1, none⟩ = some (.slice none 0 0) := by simp [World.cell?, hR]
    have f1 : V2.frozen? ⟨w.heap.size + 1 + 1, 1, none⟩ = false := by simp [World.frozen?, hR]
    have HB := Lib.hid (HB3.out.trans (hb2.mono (by omega)))
    clear hzz hpos1 hmm hm2 hb2 hR
    go_wp2_with fail
    refine Lex.lexQ_normal (fun h => absurd h (by decide)) ?_
    refine Lex.lex_nil ?_
    go_wp2
    refine bodyPost_ret (v := .agg #[.bool neg1, .slice A1 n1 c1]) (by simp [results, Tryz.results52, go_sem, q0, q1]) rfl ⟨_, rfl, HST.out, ?_⟩
    exact (HB.out.setCell (by show w.heap.size ≤ w.heap.size + 1 + 1; omega) _).setCell (by show w.heap.size ≤ w.heap.size + 1 + 1; omega) _

set_option maxRecDepth 100000 in
set_option maxHeartbeats 1600000 in
theorem radd_ge (na : Bool) (A : Option Addr) (n c : Nat) (B : Option Addr) (m d : Nat) (x y : Int) (N M : Nat) (w : World) (hx : RMag w (.slice A n c) x N) (hy : RMag w (.slice B m d) y M) (hN : N ≤ 999) (hM : M ≤ 999) (hle : y ≤ x) :
    Calls Tryz.prog 52 #[.agg #[.bool na, .slice A n c], .agg #[.bool (!na), .slice B m d]] w (RetR (if na then -(x - y) else x - y) (max N M) w) := by
  have cp : ∀ W, Below w.heap.size w W → Calls Tryz.prog 48 #[.slice A n c, .slice B m d] W (RetDD (x - y) (max N M) W) := fun W hb => (rless_any (hx.below hb) (hy.below hb) (by omega) hle).mono fun e w' h => by
    obtain ⟨v, h1, ⟨zs, h2, h3, h4⟩, h5⟩ := h.dd
    exact ⟨v, h1, ⟨zs, h2, h3, by omega⟩, h5⟩
  have cl := fun (v : Value) (W : World) (h : IsD W v (x - y) (max N M)) => lean_isd na W h (by omega)
  have hB : Below w.heap.size w (((w.alloc (.cells #[.bool na, .slice A n c] 43)).alloc (.cells #[.bool (!na), .slice B m d] 43)).alloc (.cells #[.bool false, .slice none 0 0] 43)) := (((Below.refl _ _).alloc (Nat.le_refl _) _).alloc (by simp) _).alloc (by simp; omega) _
  obtain ⟨W3, hW3⟩ : ∃ W3, W3 = ((w.alloc (.cells #[.bool na, .slice A n c] 43)).alloc (.cells #[.bool (!na), .slice B m d] 43)).alloc (.cells #[.bool false, .slice none 0 0] 43) := ⟨_, rfl⟩
  have hs3 : W3.heap.size = w.heap.size + 1 + 1 + 1 := by rw [hW3]; simp
  have HE : ∀ W, Below (w.heap.size + 1 + 1 + 1) W3 W → W.heap[w.heap.size + 1 + 1]? = some (.cells #[.bool false, .slice none 0 0] 43 (0, 0)) := fun W hb => res_rcell rfl rfl (hW3 ▸ hb)
  rw [← hW3] at hB
  have HB3 := Lib.hid hB
  clear hB
  have cs := rsizes_any (hx.below HB3.out) (hy.below HB3.out) (by omega) (by omega)
  have hsg : 0 ≤ sgn (x - y) := by unfold sgn; rw [if_neg (by omega)]; split <;> omega
  have hd : decide (0 ≤ sgn (x - y)) = true := decide_eq_true (by omega)
  generalize sgn (x - y) = sz at *
  have c := cs
  clear cs
  rw [hW3] at c
  clear hx hy hsg hle
  rcases na with _ | _
  · go_enter Tryz.func52, Tryz.ntmps52
    go_wp2_with fail
    refine c.mono ?_
    rintro e W ⟨rfl, zz, rfl⟩
    rw [← hW3]
    have hbW : Below (w.heap.size + 1 + 1 + 1) W3 (W3.drewN zz) := ⟨rfl, rfl, rfl, Nat.le_refl _, fun _ _ => rfl⟩
    have HW := Lib.hid hW3
    clear hW3 c
    generalize W3.drewN zz = W4 at *
    go_wp2_with fail
    have k0 : W3.cell? ⟨w.heap.size, 0, none⟩ = some (.bool false) := by rw [HW.out]; simp [go_sem]
    have j0 := (hbW.cell (p := ⟨w.heap.size, 0, none⟩) (by show w.heap.size < w.heap.size + 1 + 1 + 1; omega)).trans k0
    have k1 : W3.cell? ⟨w.heap.size, 1, none⟩ = some (.slice A n c) := by rw [HW.out]; simp [go_sem]
    have j1 := (hbW.cell (p := ⟨w.heap.size, 1, none⟩) (by show w.heap.size < w.heap.size + 1 + 1 + 1; omega)).trans k1
    have k2 : W3.cell? ⟨w.heap.size + 1, 1, none⟩ = some (.slice B m d) := by rw [HW.out]; simp [go_sem]
    have j2 := (hbW.cell (p := ⟨w.heap.size + 1, 1, none⟩) (by show w.heap.size + 1 < w.heap.size + 1 + 1 + 1; omega)).trans k2
    refine Lex.wp_region_lex (fun w' => w'.cell? ⟨w.heap.size, 0, none⟩ = some (.bool false) ∧ w'.cell? ⟨w.heap.size, 1, none⟩ = some (.slice A n c) ∧ w'.cell? ⟨w.heap.size + 1, 1, none⟩ = some (.slice B m d)) (fun j => j != 9)
      [(0, true), (1, true), (2, true), (3, true), (4, true), (5, true), (6, false), (7, false), (8, false), (9, false)]
      (by kernel_rfl) (by kernel_rfl) (by kernel_rfl) (by kernel_rfl) ⟨j0, j1, j2⟩ ?_
    iterate 6 (refine Lex.lex_take (v := ?_) rfl rfl (by rfl) (fun _ hS => ?_) ?_; rotate_left 1; (focus (go_split_ands; go_simp; with_reducible rfl)); simp only [List.setIfInBounds_toArray, List.set_cons_zero, List.set_cons_succ])
    refine Lex.lex_do rfl ?_
    have hb0 : Below (w.heap.size + 1 + 1 + 1) W3 W4.drew := hbW.drew
    generalize W4.drew = V0 at *
    clear hbW j0 j1 j2
    have c := cp _ (HB3.out.trans (hb0.mono (by omega)))
    clear cp
    go_wp2_with fail
    refine (c).mono ?_
    rintro e V1 ⟨v1, rfl, hm1, hn1⟩
    have hb1 : Below (w.heap.size + 1 + 1 + 1) W3 V1 := hb0.trans (hn1.mono (by have := hb0.size; omega))
    have hn1 := Lib.hid hn1
    go_wp2_with fail
    have j0 := (hb1.cell (p := ⟨w.heap.size, 0, none⟩) (by show w.heap.size < w.heap.size + 1 + 1 + 1; omega)).trans k0
    have j1 := (hb1.cell (p := ⟨w.heap.size, 1, none⟩) (by show w.heap.size < w.heap.size + 1 + 1 + 1; omega)).trans k1
    have j2 := (hb1.cell (p := ⟨w.heap.size + 1, 1, none⟩) (by show w.heap.size + 1 < w.heap.size + 1 + 1 + 1; omega)).trans k2
    refine Lex.lexQ_normal (fun _ => ⟨j0, j1, j2⟩) ?_
    refine Lex.lex_do rfl ?_
    clear j0 j1 j2
    clear c
    obtain ⟨A3, n3, c3, rfl⟩ := hm1.open'
    go_wp2_with fail
    have j0 := (hb1.cell (p := ⟨w.heap.size, 0, none⟩) (by show w.heap.size < w.heap.size + 1 + 1 + 1; omega)).trans k0
    have j1 := (hb1.cell (p := ⟨w.heap.size, 1, none⟩) (by show w.heap.size < w.heap.size + 1 + 1 + 1; omega)).trans k1
    have j2 := (hb1.cell (p := ⟨w.heap.size + 1, 1, none⟩) (by show w.heap.size + 1 < w.heap.size + 1 + 1 + 1; omega)).trans k2
    refine Lex.lexQ_normal (fun _ => ⟨j0, j1, j2⟩) ?_
    refine Lex.lex_do rfl ?_
    clear j0 j1 j2
    have c := cl _ _ hm1
    go_wp2_with fail
    refine (c).mono ?_
    rintro e V2 ⟨v2, rfl, hm2, hn2⟩
    have hb2 : Below (w.heap.size + 1 + 1 + 1) W3 V2 := hb1.trans (hn2.mono (by have := hb1.size; omega))
    have hn2 := Lib.hid hn2
    go_wp2_with fail
    have j0 := (hb2.cell (p := ⟨w.heap.size, 0, none⟩) (by show w.heap.size < w.heap.size + 1 + 1 + 1; omega)).trans k0
    have j1 := (hb2.cell (p := ⟨w.heap.size, 1, none⟩) (by show w.heap.size < w.heap.size + 1 + 1 + 1; omega)).trans k1
    have j2 := (hb2.cell (p := ⟨w.heap.size + 1, 1, none⟩) (by show w.heap.size + 1 < w.heap.size + 1 + 1 + 1; omega)).trans k2
    refine Lex.lexQ_normal (fun _ => ⟨j0, j1, j2⟩) ?_
    refine Lex.lex_do rfl ?_
    clear j0 j1 j2
    obtain ⟨neg1, A1, n1, c1, m1, rfl, hmm, hzz, hpos1, _, _⟩ := hm2.open'
    have hR := HE _ hb2
    have HST := Lib.hid (hm2.stored (u0 := .bool neg1) (u1 := .slice A1 n1 c1) hR)
    have q0 : V2.cell? ⟨w.heap.size + 1 + 1, 0, none⟩ = some (.bool false) := by simp [World.cell?, hR]
    have f0 : V2.frozen? ⟨w.heap.size + 1 + 1, 0, none⟩ = false := by simp [World.frozen?, hR]
    have q1 : V2.cell? ⟨w.heap.size + 1 + 1, 1, none⟩ = some (.slice none 0 0) := by simp [World.cell?, hR]
    have f1 : V2.frozen? ⟨w.heap.size + 1 + 1, 1, none⟩ = false := by simp [World.frozen?, hR]
    have HB := Lib.hid (HB3.out.trans (hb2.mono (by omega)))
    clear hzz hpos1 hmm hm2 hb2 hR
    go_wp2_with fail
    refine Lex.lexQ_normal (fun h => absurd h (by decide)) ?_
    refine Lex.lex_nil ?_
    go_wp2
    refine bodyPost_ret (v := .agg #[.bool neg1, .slice A1 n1 c1]) (by simp [results, Tryz.results52, go_sem, q0, q1]) rfl ⟨_, rfl, HST.out, ?_⟩
    exact (HB.out.setCell (by show w.heap.size ≤ w.heap.size + 1 + 1; omega) _).setCell (by show w.heap.size ≤ w.heap.size + 1 + 1; omega) _
  · go_enter Tryz.func52, Tryz.ntmps52
    go_wp2_with fail
    refine c.mono ?_
    rintro e W ⟨rfl, zz, rfl⟩
    rw [← hW3]
    have hbW : Below (w.heap.size + 1 + 1 + 1) W3 (W3.drewN zz) := ⟨rfl, rfl, rfl, Nat.le_refl _, fun _ _ => rfl⟩
    have HW := Lib.hid hW3
    clear hW3 c
    generalize W3.drewN zz = W4 at *
    go_wp2_with fail
    have k0 : W3.cell? ⟨w.heap.size, 0, none⟩ = some (.bool true) := by rw [HW.out]; simp [go_sem]
    have j0 := (hbW.cell (p := ⟨w.heap.size, 0, none⟩) (by show w.heap.size < w.heap.size + 1 + 1 + 1; omega)).trans k0
    have k1 : W3.cell? ⟨w.heap.size, 1, none⟩ = some (.slice A n c) := by rw [HW.out]; simp [go_sem]
    have j1 := (hbW.cell (p := ⟨w.heap.size, 1, none⟩) (by show w.heap.size < w.heap.size + 1 + 1 + 1; omega)).trans k1
    have k2 : W3.cell? ⟨w.heap.size + 1, 1, none⟩ = some (.slice B m d) := by rw [HW.out]; simp [go_sem]
    have j2 := (hbW.cell (p := ⟨w.heap.size + 1, 1, none⟩) (by show w.heap.size + 1 < w.heap.size + 1 + 1 + 1; omega)).trans k2
    refine Lex.wp_region_lex (fun w' => w'.cell? ⟨w.heap.size, 0, none⟩ = some (.bool true) ∧ w'.cell? ⟨w.heap.size, 1, none⟩ = some (.slice A n c) ∧ w'.cell? ⟨w.heap.size + 1, 1, none⟩ = some (.slice B m d)) (fun j => j != 9)
      [(0, true), (1, true), (2, true), (3, true), (4, true), (5, true), (6, false), (7, false), (8, false), (9, false)]
      (by kernel_rfl) (by kernel_rfl) (by kernel_rfl) (by kernel_rfl) ⟨j0, j1, j2⟩ ?_
    iterate 6 (refine Lex.lex_take (v := ?_) rfl rfl (by rfl) (fun _ hS => ?_) ?_; rotate_left 1; (focus (go_split_ands; go_simp; with_reducible rfl)); simp only [List.setIfInBounds_toArray, List.set_cons_zero, List.set_cons_succ])
    refine Lex.lex_do rfl ?_
    have hb0 : Below (w.heap.size + 1 + 1 + 1) W3 W4.drew := hbW.drew
    generalize W4.drew = V0 at *
    clear hbW j0 j1 j2
    have c := cp _ (HB3.out.trans (hb0.mono (by omega)))
    clear cp
    go_wp2_with fail
    refine (c).mono ?_
    rintro e V1 ⟨v1, rfl, hm1, hn1⟩
    have hb1 : Below (w.heap.size + 1 + 1 + 1) W3 V1 := hb0.trans (hn1.mono (by have := hb0.size; omega))
    have hn1 := Lib.hid hn1
    go_wp2_with fail
    have j0 := (hb1.cell (p := ⟨w.heap.size, 0, none⟩) (by show w.heap.size < w.heap.size + 1 + 1 + 1; omega)).trans k0
    have j1 := (hb1.cell (p := ⟨w.heap.size, 1, none⟩) (by show w.heap.size < w.heap.size + 1 + 1 + 1; omega)).trans k1
    have j2 := (hb1.cell (p := ⟨w.heap.size + 1, 1, none⟩) (by show w.heap.size + 1 < w.heap.size + 1 + 1 + 1; omega)).trans k2
    refine Lex.lexQ_normal (fun _ => ⟨j0, j1, j2⟩) ?_
    refine Lex.lex_do rfl ?_
    clear j0 j1 j2
    clear c
    obtain ⟨A3, n3, c3, rfl⟩ := hm1.open'
    go_wp2_with fail
    have j0 := (hb1.cell (p := ⟨w.heap.size, 0, none⟩) (by show w.heap.size < w.heap.size + 1 + 1 + 1; omega)).trans k0
    have j1 := (hb1.cell (p := ⟨w.heap.size, 1, none⟩) (by show w.heap.size < w.heap.size + 1 + 1 + 1; omega)).trans k1
    have j2 := (hb1.cell (p := ⟨w.heap.size + 1, 1, none⟩) (by show w.heap.size + 1 < w.heap.size + 1 + 1 + 1; omega)).trans k2
    refine Lex.lexQ_normal (fun _ => ⟨j0, j1, j2⟩) ?_
    refine Lex.lex_do rfl ?_
    clear j0 j1 j2
    have c := cl _ _ hm1
    go_wp2_with fail
    refine (c).mono ?_
    rintro e V2 ⟨v2, rfl, hm2, hn2⟩
    have hb2 : Below (w.heap.size + 1 + 1 + 1) W3 V2 := hb1.trans (hn2.mono (by have := hb1.size; omega))
    have hn2 := Lib.hid hn2
    go_wp2_with fail
    have j0 := (hb2.cell (p := ⟨w.heap.size, 0, none⟩) (by show w.heap.size < w.heap.size + 1 + 1 + 1; omega)).trans k0
    have j1 := (hb2.cell (p := ⟨w.heap.size, 1, none⟩) (by show w.heap.size < w.heap.size + 1 + 1 + 1; omega)).trans k1
    have j2 := (hb2.cell (p := ⟨w.heap.size + 1, 1, none⟩) (by show w.heap.size + 1 < w.heap.size + 1 + 1 + 1; omega)).trans k2
    refine Lex.lexQ_normal (fun _ => ⟨j0, j1, j2⟩) ?_
    refine Lex.lex_do rfl ?_
    clear j0 j1 j2
    obtain ⟨neg1, A1, n1, c1, m1, rfl, hmm, hzz, hpos1, _, _⟩ := hm2.open'
    have hR := HE _ hb2
    have HST := Lib.hid (hm2.stored (u0 := .bool neg1) (u1 := .slice A1 n1 c1) hR)
    have q0 : V2.cell? ⟨w.heap.size + 1 + 1, 0, none⟩ = some (.bool false) := by simp [World.cell?, hR]
    have f0 : V2.frozen? ⟨w.heap.size + 1 + 1, 0, none⟩ = false := by simp [World.frozen?, hR]
    have q1 : V2.cell? ⟨w.heap.size + 1 + 1, 1, none⟩ = some (.slice none 0 0) := by simp [World.cell?, hR]
    have f1 : V2.frozen? ⟨w.heap.size + 1 + 1, 1, none⟩ = false := by simp [World.frozen?, hR]
    have HB := Lib.hid (HB3.out.trans (hb2.mono (by omega)))
    clear hzz hpos1 hmm hm2 hb2 hR
    go_wp2_with fail
    refine Lex.lexQ_normal (fun h => absurd h (by decide)) ?_
    refine Lex.lex_nil ?_
    go_wp2
    refine bodyPost_ret (v := .agg #[.bool neg1, .slice A1 n1 c1]) (by simp [results, Tryz.results52, go_sem, q0, q1]) rfl ⟨_, rfl, HST.out, ?_⟩
    exact (HB.out.setCell (by show w.heap.size ≤ w.heap.size + 1 + 1; omega) _).setCell (by show w.heap.size ≤ w.heap.size + 1 + 1; omega) _

set_option maxRecDepth 100000 in
set_option maxHeartbeats 1600000 in
theorem radd_lt (na : Bool) (A : Option Addr) (n c : Nat) (B : Option Addr) (m d : Nat) (x y : Int) (N M : Nat) (w : World) (hx : RMag w (.slice A n c) x N) (hy : RMag w (.slice B m d) y M) (hN : N ≤ 999) (hM : M ≤ 999) (hle : x < y) :
    Calls Tryz.prog 52 #[.agg #[.bool na, .slice A n c], .agg #[.bool (!na), .slice B m d]] w (RetR (if !na then -(y - x) else y - x) (max N M) w) := by
  have cp : ∀ W, Below w.heap.size w W → Calls Tryz.prog 48 #[.slice B m d, .slice A n c] W (RetDD (y - x) (max N M) W) := fun W hb => (rless_any (hy.below hb) (hx.below hb) (by omega) (by omega)).mono fun e w' h => by
    obtain ⟨v, h1, ⟨zs, h2, h3, h4⟩, h5⟩ := h.dd
    exact ⟨v, h1, ⟨zs, h2, h3, by omega⟩, h5⟩
  have cl := fun (v : Value) (W : World) (h : IsD W v (y - x) (max N M)) => lean_isd (!na) W h (by omega)
  have hB : Below w.heap.size w (((w.alloc (.cells #[.bool na, .slice A n c] 43)).alloc (.cells #[.bool (!na), .slice B m d] 43)).alloc (.cells #[.bool false, .slice none 0 0] 43)) := (((Below.refl _ _).alloc (Nat.le_refl _) _).alloc (by simp) _).alloc (by simp; omega) _
  obtain ⟨W3, hW3⟩ : ∃ W3, W3 = ((w.alloc (.cells #[.bool na, .slice A n c] 43)).alloc (.cells #[.bool (!na), .slice B m d] 43)).alloc (.cells #[.bool false, .slice none 0 0] 43) := ⟨_, rfl⟩
  have hs3 : W3.heap.size = w.heap.size + 1 + 1 + 1 := by rw [hW3]; simp
  have HE : ∀ W, Below (w.heap.size + 1 + 1 + 1) W3 W → W.heap[w.heap.size + 1 + 1]? = some (.cells #[.bool false, .slice none 0 0] 43 (0, 0)) := fun W hb => res_rcell rfl rfl (hW3 ▸ hb)
  rw [← hW3] at hB
  have HB3 := Lib.hid hB
  clear hB
  have cs := rsizes_any (hx.below HB3.out) (hy.below HB3.out) (by omega) (by omega)
  have hsg : sgn (x - y) < 0 := by unfold sgn; rw [if_pos (by omega)]; omega
  have hd : decide (0 ≤ sgn (x - y)) = false := decide_eq_false (by omega)
  generalize sgn (x - y) = sz at *
  have c := cs
  clear cs
  rw [hW3] at c
  clear hx hy hsg hle
  rcases na with _ | _
  · go_enter Tryz.func52, Tryz.ntmps52
    go_wp2_with fail
    refine c.mono ?_
    rintro e W ⟨rfl, zz, rfl⟩
    rw [← hW3]
    have hbW : Below (w.heap.size + 1 + 1 + 1) W3 (W3.drewN zz) := ⟨rfl, rfl, rfl, Nat.le_refl _, fun _ _ => rfl⟩
    have HW := Lib.hid hW3
    clear hW3 c
    generalize W3.drewN zz = W4 at *
    go_wp2_with fail
    have k0 : W3.cell? ⟨w.heap.size + 1, 0, none⟩ = some (.bool true) := by rw [HW.out]; simp [go_sem]
    have j0 := (hbW.cell (p := ⟨w.heap.size + 1, 0, none⟩) (by show w.heap.size + 1 < w.heap.size + 1 + 1 + 1; omega)).trans k0
    have k1 : W3.cell? ⟨w.heap.size + 1, 1, none⟩ = some (.slice B m d) := by rw [HW.out]; simp [go_sem]
    have j1 := (hbW.cell (p := ⟨w.heap.size + 1, 1, none⟩) (by show w.heap.size + 1 < w.heap.size + 1 + 1 + 1; omega)).trans k1
    have k2 : W3.cell? ⟨w.heap.size, 1, none⟩ = some (.slice A n c) := by rw [HW.out]; simp [go_sem]
    have j2 := (hbW.cell (p := ⟨w.heap.size, 1, none⟩) (by show w.heap.size < w.heap.size + 1 + 1 + 1; omega)).trans k2
    refine Lex.wp_region_lex (fun w' => w'.cell? ⟨w.heap.size + 1, 0, none⟩ = some (.bool true) ∧ w'.cell? ⟨w.heap.size + 1, 1, none⟩ = some (.slice B m d) ∧ w'.cell? ⟨w.heap.size, 1, none⟩ = some (.slice A n c)) (fun j => j != 9)
      [(0, true), (1, true), (2, true), (3, true), (4, true), (5, true), (6, false), (7, false), (8, false), (9, false)]
      (by kernel_rfl) (by kernel_rfl) (by kernel_rfl) (by kernel_rfl) ⟨j0, j1, j2⟩ ?_
    iterate 6 (refine Lex.lex_take (v := ?_) rfl rfl (by rfl) (fun _ hS => ?_) ?_; rotate_left 1; (focus (go_split_ands; go_simp; with_reducible rfl)); simp only [List.setIfInBounds_toArray, List.set_cons_zero, List.set_cons_succ])
    refine Lex.lex_do rfl ?_
    have hb0 : Below (w.heap.size + 1 + 1 + 1) W3 W4.drew := hbW.drew
    generalize W4.drew = V0 at *
    clear hbW j0 j1 j2
    have c := cp _ (HB3.out.trans (hb0.mono (by omega)))
    clear cp
    go_wp2_with fail
    refine (c).mono ?_
    rintro e V1 ⟨v1, rfl, hm1, hn1⟩
    have hb1 : Below (w.heap.size + 1 + 1 + 1) W3 V1 := hb0.trans (hn1.mono (by have := hb0.size; omega))
    have hn1 := Lib.hid hn1
    go_wp2_with fail
    have j0 := (hb1.cell (p := ⟨w.heap.size + 1, 0, none⟩) (by show w.heap.size + 1 < w.heap.size + 1 + 1 + 1; omega)).trans k0
    have j1 := (hb1.cell (p := ⟨w.heap.size + 1, 1, none⟩) (by show w.heap.size + 1 < w.heap.size + 1 + 1 + 1; omega)).trans k1
    have j2 := (hb1.cell (p := ⟨w.heap.size, 1, none⟩) (by show w.heap.size < w.heap.size + 1 + 1 + 1; omega)).trans k2
    refine Lex.lexQ_normal (fun _ => ⟨j0, j1, j2⟩) ?_
    refine Lex.lex_do rfl ?_
    clear j0 j1 j2
    clear c
    obtain ⟨A3, n3, c3, rfl⟩ := hm1.open'
    go_wp2_with fail
    have j0 := (hb1.cell (p := ⟨w.heap.size + 1, 0, none⟩) (by show w.heap.size + 1 < w.heap.size + 1 + 1 + 1; omega)).trans k0
    have j1 := (hb1.cell (p := ⟨w.heap.size + 1, 1, none⟩) (by show w.heap.size + 1 < w.heap.size + 1 + 1 + 1; omega)).trans k1
    have j2 := (hb1.cell (p := ⟨w.heap.size, 1, none⟩) (by show w.heap.size < w.heap.size + 1 + 1 + 1; omega)).trans k2
    refine Lex.lexQ_normal (fun _ => ⟨j0, j1, j2⟩) ?_
    refine Lex.lex_do rfl ?_
    clear j0 j1 j2
    have c := cl _ _ hm1
    go_wp2_with fail
    refine (c).mono ?_
    rintro e V2 ⟨v2, rfl, hm2, hn2⟩
    have hb2 : Below (w.heap.size + 1 + 1 + 1) W3 V2 := hb1.trans (hn2.mono (by have := hb1.size; omega))
    have hn2 := Lib.hid hn2
    go_wp2_with fail
    have j0 := (hb2.cell (p := ⟨w.heap.size + 1, 0, none⟩) (by show w.heap.size + 1 < w.heap.size + 1 + 1 + 1; omega)).trans k0
    have j1 := (hb2.cell (p := ⟨w.heap.size + 1, 1, none⟩) (by show w.heap.size + 1 < w.heap.size + 1 + 1 + 1; omega)).trans k1
    have j2 := (hb2.cell (p := ⟨w.heap.size, 1, none⟩) (by show w.heap.size < w.heap.size + 1 + 1 + 1; omega)).trans k2
    refine Lex.lexQ_normal (fun _ => ⟨j0, j1, j2⟩) ?_
    refine Lex.lex_do rfl ?_
    clear j0 j1 j2
    obtain ⟨neg1, A1, n1, c1, m1, rfl, hmm, hzz, hpos1, _, _⟩ := hm2.open'
    have hR := HE _ hb2
    have HST := Lib.hid (hm2.stored (u0 := .bool neg1) (u1 := .slice A1 n1 c1) hR)
    have q0 : V2.cell? ⟨w.heap.size + 1 + 1, 0, none⟩ = some (.bool false) := by simp [World.cell?, hR]
    have f0 : V2.frozen? ⟨w.heap.size + 1 + 1, 0, none⟩ = false := by simp [World.frozen?, hR]
    have q1 : V2.cell? ⟨w.heap.size + 1 + 1, 1, none⟩ = some (.slice none 0 0) := by simp [World.cell?, hR]
    have f1 : V2.frozen? ⟨w.heap.size + 1 + 1, 1, none⟩ = false := by simp [World.frozen?, hR]
    have HB := Lib.hid (HB3.out.trans (hb2.mono (by omega)))
    clear hzz hpos1 hmm hm2 hb2 hR
    go_wp2_with fail
    refine Lex.lexQ_normal (fun h => absurd h (by decide)) ?_
    refine Lex.lex_nil ?_
    go_wp2
    refine bodyPost_ret (v := .agg #[.bool neg1, .slice A1 n1 c1]) (by simp [results, Tryz.results52, go_sem, q0, q1]) rfl ⟨_, rfl, HST.out, ?_⟩
    exact (HB.out.setCell (by show w.heap.size ≤ w.heap.size + 1 + 1; omega) _).setCell (by show w.heap.size ≤ w.heap.size + 1 + 1; omega) _
  · go_enter Tryz.func52, Tryz.ntmps52
    go_wp2_with fail
    refine c.mono ?_
    rintro e W ⟨rfl, zz, rfl⟩
    rw [← hW3]
    have hbW : Below (w.heap.size + 1 + 1 + 1) W3 (W3.drewN zz) := ⟨rfl, rfl, rfl, Nat.le_refl _, fun _ _ => rfl⟩
    have HW := Lib.hid hW3
    clear hW3 c
    generalize W3.drewN zz = W4 at *
    go_wp2_with fail
    have k0 : W3.cell? ⟨w.heap.size + 1, 0, none⟩ = some (.bool false) := by rw [HW.out]; simp [go_sem]
    have j0 := (hbW.cell (p := ⟨w.heap.size + 1, 0, none⟩) (by show w.heap.size + 1 < w.heap.size + 1 + 1 + 1; omega)).trans k0
    have k1 : W3.cell? ⟨w.heap.size + 1, 1, none⟩ = some (.slice B m d) := by rw [HW.out]; simp [go_sem]
    have j1 := (hbW.cell (p := ⟨w.heap.size + 1, 1, none⟩) (by show w.heap.size + 1 < w.heap.size + 1 + 1 + 1; omega)).trans k1
    have k2 : W3.cell? ⟨w.heap.size, 1, none⟩ = some (.slice A n c) := by rw [HW.out]; simp [go_sem]
    have j2 := (hbW.cell (p := ⟨w.heap.size, 1, none⟩) (by show w.heap.size < w.heap.size + 1 + 1 + 1; omega)).trans k2
    refine Lex.wp_region_lex (fun w' => w'.cell? ⟨w.heap.size + 1, 0, none⟩ = some (.bool false) ∧ w'.cell? ⟨w.heap.size + 1, 1, none⟩ = some (.slice B m d) ∧ w'.cell? ⟨w.heap.size, 1, none⟩ = some (.slice A n c)) (fun j => j != 9)
      [(0, true), (1, true), (2, true), (3, true), (4, true), (5, true), (6, false), (7, false), (8, false), (9, false)]
      (by kernel_rfl) (by kernel_rfl) (by kernel_rfl) (by kernel_rfl) ⟨j0, j1, j2⟩ ?_
    iterate 6 (refine Lex.lex_take (v := ?_) rfl rfl (by rfl) (fun _ hS => ?_) ?_; rotate_left 1; (focus (go_split_ands; go_simp; with_reducible rfl)); simp only [List.setIfInBounds_toArray, List.set_cons_zero, List.set_cons_succ])
    refine Lex.lex_do rfl ?_
    have hb0 : Below (w.heap.size + 1 + 1 + 1) W3 W4.drew := hbW.drew
    generalize W4.drew = V0 at *
    clear hbW j0 j1 j2
    have c := cp _ (HB3.out.trans (hb0.mono (by omega)))
    clear cp
    go_wp2_with fail
    refine (c).mono ?_
    rintro e V1 ⟨v1, rfl, hm1, hn1⟩
    have hb1 : Below (w.heap.size + 1 + 1 + 1) W3 V1 := hb0.trans (hn1.mono (by have := hb0.size; omega))
    have hn1 := Lib.hid hn1
    go_wp2_with fail
    have j0 := (hb1.cell (p := ⟨w.heap.size + 1, 0, none⟩) (by show w.heap.size + 1 < w.heap.size + 1 + 1 + 1; omega)).trans k0
    have j1 := (hb1.cell (p := ⟨w.heap.size + 1, 1, none⟩) (by show w.heap.size + 1 < w.heap.size + 1 + 1 + 1; omega)).trans k1
    have j2 := (hb1.cell (p := ⟨w.heap.size, 1, none⟩) (by show w.heap.size < w.heap.size + 1 + 1 + 1; omega)).trans k2
    refine Lex.lexQ_normal (fun _ => ⟨j0, j1, j2⟩) ?_
    refine Lex.lex_do rfl ?_
    clear j0 j1 j2
    clear c
    obtain ⟨A3, n3, c3, rfl⟩ := hm1.open'
    go_wp2_with fail
    have j0 := (hb1.cell (p := ⟨w.heap.size + 1, 0, none⟩) (by show w.heap.size + 1 < w.heap.size + 1 + 1 + 1; omega)).trans k0
    have j1 := (hb1.cell (p := ⟨w.heap.size + 1, 1, none⟩) (by show w.heap.size + 1 < w.heap.size + 1 + 1 + 1; omega)).trans k1
    have j2 := (hb1.cell (p := ⟨w.heap.size, 1, none⟩) (by show w.heap.size < w.heap.size + 1 + 1 + 1; omega)).trans k2
    refine Lex.lexQ_normal (fun _ => ⟨j0, j1, j2⟩) ?_
    refine Lex.lex_do rfl ?_
    clear j0 j1 j2
    have c := cl _ _ hm1
    go_wp2_with fail
    refine (c).mono ?_
    rintro e V2 ⟨v2, rfl, hm2, hn2⟩
    have hb2 : Below (w.heap.size + 1 + 1 + 1) W3 V2 := hb1.trans (hn2.mono (by have := hb1.size; omega))
    have hn2 := Lib.hid hn2
    go_wp2_with fail
    have j0 := (hb2.cell (p := ⟨w.heap.size + 1, 0, none⟩) (by show w.heap.size + 1 < w.heap.size + 1 + 1 + 1; omega)).trans k0
    have j1 := (hb2.cell (p := ⟨w.heap.size + 1, 1, none⟩) (by show w.heap.size + 1 < w.heap.size + 1 + 1 + 1; omega)).trans k1
    have j2 := (hb2.cell (p := ⟨w.heap.size, 1, none⟩) (by show w.heap.size < w.heap.size + 1 + 1 + 1; omega)).trans k2
    refine Lex.lexQ_normal (fun _ => ⟨j0, j1, j2⟩) ?_
    refine Lex.lex_do rfl ?_
    clear j0 j1 j2
    obtain ⟨neg1, A1, n1, c1, m1, rfl, hmm, hzz, hpos1, _, _⟩ := hm2.open'
    have hR := HE _ hb2
    have HST := Lib.hid (hm2.stored (u0 := .bool neg1) (u1 := .slice A1 n1 c1) hR)
    have q0 : V2.cell? ⟨w.heap.size + 1 + 1, 0, none⟩ = some (.bool false) := by simp [World.cell?, hR]
    have f0 : V2.frozen? ⟨w.heap.size + 1 + 1, 0, none⟩ = false := by simp [World.frozen?, hR]
    have q1 : V2.cell? ⟨w.heap.size + 1 + 1, 1, none⟩ = some (.slice none 0 0) := by simp [World.cell?, hR]
    have f1 : V2.frozen? ⟨w.heap.size + 1 + 1, 1, none⟩ = false := by simp [World.frozen?, hR]
    have HB := Lib.hid (HB3.out.trans (hb2.mono (by omega)))
    clear hzz hpos1 hmm hm2 hb2 hR
    go_wp2_with fail
    refine Lex.lexQ_normal (fun h => absurd h (by decide)) ?_
    refine Lex.lex_nil ?_
    go_wp2
    refine bodyPost_ret (v := .agg #[.bool neg1, .slice A1 n1 c1]) (by simp [results, Tryz.results52, go_sem, q0, q1]) rfl ⟨_, rfl, HST.out, ?_⟩
    exact (HB.out.setCell (by show w.heap.size ≤ w.heap.size + 1 + 1; omega) _).setCell (by show w.heap.size ≤ w.heap.size + 1 + 1; omega) _

theorem radd_any {w : World} {u v : Value} {x y : Int} {N M : Nat} (hu : IsR w u x N) (hv : IsR w v y M) (hN : N ≤ 999) (hM : M ≤ 999) :
    Calls Tryz.prog 52 #[u, v] w (RetR (x + y) (max N M + 1) w) := by
  obtain ⟨na, A, n, c, a, rfl, ha, hx, _, _⟩ := hu.open'
  obtain ⟨nb, B, m, d, b, rfl, hb, hy, _, _⟩ := hv.open'
  by_cases hab : nb = na
  · subst hab
    have h := radd_same nb A n c B m d a b N M w ha hb hN hM
    have e : (if nb then -(a + b) else a + b) = x + y := by rw [hx, hy]; cases nb <;> simp <;> omega
    rwa [e] at h
  · have hnb : nb = !na := by cases na <;> cases nb <;> simp_all
    subst hnb
    by_cases hle : b ≤ a
    · have h := radd_ge na A n c B m d a b N M w ha hb hN hM hle
      have e : (if na then -(a - b) else a - b) = x + y := by rw [hx, hy]; cases na <;> simp <;> omega
      rw [e] at h
      exact h.mono fun e w' ⟨v, h1, h2, h3⟩ => ⟨v, h1, h2.more (by omega), h3⟩
    · have h := radd_lt na A n c B m d a b N M w ha hb hN hM (by omega)
      have e : (if !na then -(b - a) else b - a) = x + y := by rw [hx, hy]; cases na <;> simp <;> omega
      rw [e] at h
      exact h.mono fun e w' ⟨v, h1, h2, h3⟩ => ⟨v, h1, h2.more (by omega), h3⟩

set_option maxRecDepth 100000 in
set_option maxHeartbeats 1600000 in
theorem rsub_any {w : World} {u v : Value} {x y : Int} {N M : Nat} (hu : IsR w u x N) (hv : IsR w v y M) (hN : N ≤ 999) (hM : M ≤ 999) :
    Calls Tryz.prog 34 #[u, v] w (RetR (x - y) (max N M + 1) w) := by
  have cn : ∀ W, Below w.heap.size w W → Calls Tryz.prog 55 #[v] W (RetR (-y) M W) := fun W hb => rneg_any (hv.below hb)
  have ca : ∀ W v1, Below w.heap.size w W → IsR W v1 (-y) M → Calls Tryz.prog 52 #[u, v1] W (RetR (x - y) (max N M + 1) W) := fun W v1 hb h1 => radd_any (hu.below hb) h1 hN hM
  obtain ⟨na, A, n, c, a, rfl, -, -, -, -⟩ := hu.open'
  obtain ⟨nb, B, m, d, b, rfl, -, -, -, -⟩ := hv.open'
  clear hu hv
  obtain ⟨pna, rfl⟩ : ∃ p : Bool × Unit, na = p.1 := ⟨(na, ()), rfl⟩
  obtain ⟨pnb, rfl⟩ : ∃ p : Bool × Unit, nb = p.1 := ⟨(nb, ()), rfl⟩
  have hB : Below w.heap.size w (((w.alloc (.cells #[.bool pna.1, .slice A n c] 43)).alloc (.cells #[.bool pnb.1, .slice B m d] 43)).alloc (.cells #[.bool false, .slice none 0 0] 43)) := (((Below.refl _ _).alloc (Nat.le_refl _) _).alloc (by simp) _).alloc (by simp; omega) _
  obtain ⟨W3, hW3⟩ : ∃ W3, W3 = ((w.alloc (.cells #[.bool pna.1, .slice A n c] 43)).alloc (.cells #[.bool pnb.1, .slice B m d] 43)).alloc (.cells #[.bool false, .slice none 0 0] 43) := ⟨_, rfl⟩
  have hs3 : W3.heap.size = w.heap.size + 1 + 1 + 1 := by rw [hW3]; simp
  have HE : ∀ W, Below (w.heap.size + 1 + 1 + 1) W3 W → W.heap[w.heap.size + 1 + 1]? = some (.cells #[.bool false, .slice none 0 0] 43 (0, 0)) := fun W hb => res_rcell rfl rfl (hW3 ▸ hb)
  rw [← hW3] at hB
  have HB3 := Lib.hid hB
  clear hB
  go_enter Tryz.func34, Tryz.ntmps34
  go_wp2_with fail
  rw [← hW3]
  have HW := Lib.hid hW3
  clear hW3
  have hbW := Below.refl (w.heap.size + 1 + 1 + 1) W3
  have k0 : W3.cell? ⟨w.heap.size, 0, none⟩ = some (.bool pna.1) := by rw [HW.out]; simp [go_sem]
  have j0 := (hbW.cell (p := ⟨w.heap.size, 0, none⟩) (by show w.heap.size < w.heap.size + 1 + 1 + 1; omega)).trans k0
  have k1 : W3.cell? ⟨w.heap.size, 1, none⟩ = some (.slice A n c) := by rw [HW.out]; simp [go_sem]
  have j1 := (hbW.cell (p := ⟨w.heap.size, 1, none⟩) (by show w.heap.size < w.heap.size + 1 + 1 + 1; omega)).trans k1
  have k2 : W3.cell? ⟨w.heap.size + 1, 0, none⟩ = some (.bool pnb.1) := by rw [HW.out]; simp [go_sem]
  have j2 := (hbW.cell (p := ⟨w.heap.size + 1, 0, none⟩) (by show w.heap.size + 1 < w.heap.size + 1 + 1 + 1; omega)).trans k2
  have k3 : W3.cell? ⟨w.heap.size + 1, 1, none⟩ = some (.slice B m d) := by rw [HW.out]; simp [go_sem]
  have j3 := (hbW.cell (p := ⟨w.heap.size + 1, 1, none⟩) (by show w.heap.size + 1 < w.heap.size + 1 + 1 + 1; omega)).trans k3
  refine Lex.wp_region_lex (fun w' => w'.cell? ⟨w.heap.size, 0, none⟩ = some (.bool pna.1) ∧ w'.cell? ⟨w.heap.size, 1, none⟩ = some (.slice A n c) ∧ w'.cell? ⟨w.heap.size + 1, 0, none⟩ = some (.bool pnb.1) ∧ w'.cell? ⟨w.heap.size + 1, 1, none⟩ = some (.slice B m d)) (fun j => j != 4)
    [(0, true), (1, true), (2, false), (3, false), (4, false)]
    (by kernel_rfl) (by kernel_rfl) (by kernel_rfl) (by kernel_rfl) ⟨j0, j1, j2, j3⟩ ?_
  iterate 2 (refine Lex.lex_take (v := ?_) rfl rfl (by rfl) (fun _ hS => ?_) ?_; rotate_left 1; (focus (go_split_ands; go_simp; with_reducible rfl)); simp only [List.setIfInBounds_toArray, List.set_cons_zero, List.set_cons_succ])
  refine Lex.lex_do rfl ?_
  have hb0 : Below (w.heap.size + 1 + 1 + 1) W3 W3.drew := hbW.drew
  generalize W3.drew = V0 at *
  clear hbW j0 j1 j2 j3
  replace cn := cn _ (HB3.out.trans (hb0.mono (by omega)))
  go_wp2_with fail
  refine (cn).mono ?_
  rintro e V1 ⟨v1, rfl, hm1, hn1⟩
  have hb1 : Below (w.heap.size + 1 + 1 + 1) W3 V1 := hb0.trans (hn1.mono (by have := hb0.size; omega))
  have hn1 := Lib.hid hn1
  go_wp2_with fail
  have j0 := (hb1.cell (p := ⟨w.heap.size, 0, none⟩) (by show w.heap.size < w.heap.size + 1 + 1 + 1; omega)).trans k0
  have j1 := (hb1.cell (p := ⟨w.heap.size, 1, none⟩) (by show w.heap.size < w.heap.size + 1 + 1 + 1; omega)).trans k1
  have j2 := (hb1.cell (p := ⟨w.heap.size + 1, 0, none⟩) (by show w.heap.size + 1 < w.heap.size + 1 + 1 + 1; omega)).trans k2
  have j3 := (hb1.cell (p := ⟨w.heap.size + 1, 1, none⟩) (by show w.heap.size + 1 < w.heap.size + 1 + 1 + 1; omega)).trans k3
  refine Lex.lexQ_normal (fun _ => ⟨j0, j1, j2, j3⟩) ?_
  refine Lex.lex_do rfl ?_
  clear j0 j1 j2 j3
  clear cn
  replace ca := ca _ _ (HB3.out.trans (hb1.mono (by omega))) hm1
  go_wp2_with fail
  refine (ca).mono ?_
  rintro e V2 ⟨v2, rfl, hm2, hn2⟩
  have hb2 : Below (w.heap.size + 1 + 1 + 1) W3 V2 := hb1.trans (hn2.mono (by have := hb1.size; omega))
  have hn2 := Lib.hid hn2
  go_wp2_with fail
  have j0 := (hb2.cell (p := ⟨w.heap.size, 0, none⟩) (by show w.heap.size < w.heap.size + 1 + 1 + 1; omega)).trans k0
  have j1 := (hb2.cell (p := ⟨w.heap.size, 1, none⟩) (by show w.heap.size < w.heap.size + 1 + 1 + 1; omega)).trans k1
  have j2 := (hb2.cell (p := ⟨w.heap.size + 1, 0, none⟩) (by show w.heap.size + 1 < w.heap.size + 1 + 1 + 1; omega)).trans k2
  have j3 := (hb2.cell (p := ⟨w.heap.size + 1, 1, none⟩) (by show w.heap.size + 1 < w.heap.size + 1 + 1 + 1; omega)).trans k3
  refine Lex.lexQ_normal (fun _ => ⟨j0, j1, j2, j3⟩) ?_
  refine Lex.lex_do rfl ?_
  clear j0 j1 j2 j3
  clear ca
  obtain ⟨neg1, A1, n1, c1, m1, rfl, hmm, hzz, hpos1, _, _⟩ := hm2.open'
  have hR := HE _ hb2
  have HST := Lib.hid (hm2.stored (u0 := .bool neg1) (u1 := .slice A1 n1 c1) hR)
  have q0 : V2.cell? ⟨w.heap.size + 1 + 1, 0, none⟩ = some (.bool false) := by simp [World.cell?, hR]
  have f0 : V2.frozen? ⟨w.heap.size + 1 + 1, 0, none⟩ = false := by simp [World.frozen?, hR]
  have q1 : V2.cell? ⟨w.heap.size + 1 + 1, 1, none⟩ = some (.slice none 0 0) := by simp [World.cell?, hR]
  have f1 : V2.frozen? ⟨w.heap.size + 1 + 1, 1, none⟩ = false := by simp [World.frozen?, hR]
  have HB := Lib.hid (HB3.out.trans (hb2.mono (by omega)))
  clear hzz hpos1 hmm hm2 hb2 hR
  go_wp2_with fail
  refine Lex.lexQ_normal (fun h => absurd h (by decide)) ?_
  refine Lex.lex_nil ?_
  go_wp2
  refine bodyPost_ret (v := .agg #[.bool neg1, .slice A1 n1 c1]) (by simp [results, Tryz.results34, go_sem, q0, q1]) rfl ⟨_, rfl, HST.out, ?_⟩
  exact (HB.out.setCell (by show w.heap.size ≤ w.heap.size + 1 + 1; omega) _).setCell (by show w.heap.size ≤ w.heap.size + 1 + 1; omega) _

set_option maxRecDepth 100000 in
set_option maxHeartbeats 1600000 in
theorem rcmpz_any {w : World} {u v : Value} {x y : Int} {N M : Nat} (hu : IsR w u x N) (hv : IsR w v y M) (hN : N ≤ 999) (hM : M ≤ 999) :
    Calls Tryz.prog 18 #[u, v] w (RetV (.int .i64 (sgn (x - y))) w) := by
  have cs : ∀ W, Below w.heap.size w W → Calls Tryz.prog 34 #[u, v] W (RetR (x - y) (max N M + 1) W) := fun W hb => rsub_any (hu.below hb) (hv.below hb) hN hM
  have cg : ∀ W v1, IsR W v1 (x - y) (max N M + 1) → Calls Tryz.prog 33 #[v1] W (RetV (.int .i64 (sgn (x - y))) W) := fun W v1 h => rsign_any h
  obtain ⟨na, A, n, c, a, rfl, -, -, -, -⟩ := hu.open'
  obtain ⟨nb, B, m, d, b, rfl, -, -, -, -⟩ := hv.open'
  clear hu hv
  obtain ⟨pna, rfl⟩ : ∃ p : Bool × Unit, na = p.1 := ⟨(na, ()), rfl⟩
  obtain ⟨pnb, rfl⟩ : ∃ p : Bool × Unit, nb = p.1 := ⟨(nb, ()), rfl⟩
  have hB : Below w.heap.size w ((w.alloc (.cells #[.bool pna.1, .slice A n c] 43)).alloc (.cells #[.bool pnb.1, .slice B m d] 43)) := ((Below.refl _ _).alloc (Nat.le_refl _) _).alloc (by simp) _
  have c1 := cs _ hB
  have HB := Lib.hid hB
  clear cs hB
  go_enter Tryz.func18, Tryz.ntmps18
  go_wp2_with fail
  refine c1.mono ?_
  rintro e w1 ⟨v1, rfl, hz1, hb1⟩
  have c2 := cg _ _ hz1
  have HB2 := Lib.hid (HB.out.trans (hb1.mono HB.out.size))
  clear c1 cg hz1 hb1
  go_wp2_with fail
  refine c2.mono ?_
  rintro e w2 ⟨rfl, hb2⟩
  have HB3 := Lib.hid (HB2.out.trans (hb2.mono HB2.out.size))
  clear hb2
  go_wp2_with fail
  go_ret
  exact ⟨rfl, HB3.out⟩
end Go.Proofs.YtklngjjokbhfpaaGreatDoor
