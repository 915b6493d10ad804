/- gear's simplest (printed by gent.py). -/
import Derived.Test.YtklngjjokbhfpaaQ
import Derived.Test.YtklngjjokbhfpaaS
namespace Go.Proofs.Ytklngjjokbhfpaa
open Go.RowKit

theorem sgn_le0 {z : Int} : sgn z ≤ 0 ↔ z ≤ 0 := by unfold sgn; split <;> (try split) <;> omega
theorem sgn_gt0 {z : Int} : 0 < sgn z ↔ 0 < z := by unfold sgn; split <;> (try split) <;> omega
theorem res_new3 (w : World) (o1 o2 o3 : Obj) : (((w.alloc o1).alloc o2).alloc o3).heap[w.heap.size + 1 + 1]? = some o3 := by
  have := heap_alloc_new ((w.alloc o1).alloc o2) o3
  simpa using this
theorem res_fcell {W V : World} {B T : Nat} {o : Obj} (hB : B < T) (h : W.heap[B]? = some o) (hb : Below T W V) : V.heap[B]? = some o := (hb.block B hB).trans h

set_option maxRecDepth 100000 in
set_option maxHeartbeats 1600000 in
theorem simplest_any : ∀ (f : Nat) (p q r s : Int) (w : World), SOk p q r s → q + s ≤ f →
    Calls Try.prog 33 #[.agg #[.int .i64 p, .int .i64 q], .agg #[.int .i64 r, .int .i64 s]] w (RetV (.agg #[.int .i64 (simpM f p q r s).1, .int .i64 (simpM f p q r s).2]) w)
  | 0, p, q, r, s, w, h, hf => by have := h.q1; have := h.s1; omega
  | f + 1, p, q, r, s, w, h, hf => by
    obtain ⟨w0, w1, w2, w3⟩ := h.whole
    have p1 := h.p1
    have p2 := h.p2
    have q1 := h.q1
    have q2 := h.q2
    have r1 := h.r1
    have r2 := h.r2
    have s1 := h.s1
    have s2 := h.s2
    have hB : Below w.heap.size w (((w.alloc (.cells #[.int .i64 p, .int .i64 q] 23)).alloc (.cells #[.int .i64 r, .int .i64 s] 23)).alloc (.cells #[.int .i64 0, .int .i64 0] 23)) := (((Below.refl _ _).alloc (Nat.le_refl _) _).alloc (by simp) _).alloc (by simp; omega) _
    obtain ⟨W3, hW3⟩ : ∃ W3, W3 = ((w.alloc (.cells #[.int .i64 p, .int .i64 q] 23)).alloc (.cells #[.int .i64 r, .int .i64 s] 23)).alloc (.cells #[.int .i64 0, .int .i64 0] 23) := ⟨_, rfl⟩
    have hs3 : W3.heap.size = w.heap.size + 1 + 1 + 1 := by rw [hW3]; simp
    have k0 : W3.cell? ⟨w.heap.size, 0, none⟩ = some (.int .i64 p) := by rw [hW3]; simp [go_sem]
    have k1 : W3.cell? ⟨w.heap.size, 1, none⟩ = some (.int .i64 q) := by rw [hW3]; simp [go_sem]
    have k2 : W3.cell? ⟨w.heap.size + 1, 0, none⟩ = some (.int .i64 r) := by rw [hW3]; simp [go_sem]
    have k3 : W3.cell? ⟨w.heap.size + 1, 1, none⟩ = some (.int .i64 s) := by rw [hW3]; simp [go_sem]
    have hR3 : W3.heap[w.heap.size + 1 + 1]? = some (.cells #[.int .i64 0, .int .i64 0] 23 (0, 0)) := by rw [hW3]; exact res_new3 _ _ _ _
    rw [← hW3] at hB
    have HB3 := Lib.hid hB
    have hb0 := Below.refl (w.heap.size + 1 + 1 + 1) W3
    clear hB
    have cf : ∀ W, Calls Try.prog 45 #[.agg #[.int .i64 p, .int .i64 q]] W (RetW (.int .i64 (p / q)) W) := fun W => (floor_any p q W ⟨by omega, by omega⟩ ⟨by omega, by omega⟩).mono fun e w' h => RetW.of h
    by_cases hq : q = 1
    · have e : simpM (f + 1) p q r s = (p, q) := by simp [simpM, hq]
      rw [e]
      clear e
      have d1 : (q == 1) = true := by simp [hq]
      clear hq
      go_enter Try.func33, Try.ntmps33
      go_wp2_with fail
      rw [← hW3]
      clear hW3
      refine (cf _).mono ?_
      rintro e V1 ⟨v1, rfl, hv1, hn1⟩
      have hb1 : Below (w.heap.size + 1 + 1 + 1) W3 V1 := hb0.trans (hn1.mono (by have := hb0.size; omega))
      clear hn1
      have j0 := (hb1.cell (p := ⟨w.heap.size, 0, none⟩) (by show w.heap.size < w.heap.size + 1 + 1 + 1; omega)).trans k0
      have j1 := (hb1.cell (p := ⟨w.heap.size, 1, none⟩) (by show w.heap.size < w.heap.size + 1 + 1 + 1; omega)).trans k1
      have j2 := (hb1.cell (p := ⟨w.heap.size + 1, 0, none⟩) (by show w.heap.size + 1 < w.heap.size + 1 + 1 + 1; omega)).trans k2
      have j3 := (hb1.cell (p := ⟨w.heap.size + 1, 1, none⟩) (by show w.heap.size + 1 < w.heap.size + 1 + 1 + 1; omega)).trans k3
      clear hv1
      clear cf
      have hR := res_fcell (hb := hb1) (by omega) hR3
      have z0 : V1.cell? ⟨w.heap.size + 1 + 1, 0, none⟩ = some (.int .i64 0) := by simp [World.cell?, hR]
      have z1 : V1.cell? ⟨w.heap.size + 1 + 1, 1, none⟩ = some (.int .i64 0) := by simp [World.cell?, hR]
      have f0 : V1.frozen? ⟨w.heap.size + 1 + 1, 0, none⟩ = false := by simp [World.frozen?, hR]
      have f1 : V1.frozen? ⟨w.heap.size + 1 + 1, 1, none⟩ = false := by simp [World.frozen?, hR]
      clear hR
      go_wp2
      refine bodyPost_ret (v := .agg #[.int .i64 p, .int .i64 q]) (by simp [results, Try.results33, go_sem, z0, z1]) rfl ⟨rfl, ?_⟩
      exact ((HB3.out.trans ((hb1).mono (by omega))).setCell (by show w.heap.size ≤ w.heap.size + 1 + 1; omega) _).setCell (by show w.heap.size ≤ w.heap.size + 1 + 1; omega) _
    · have d1 : (q == 1) = false := by simp [hq]
      have co : ∀ W, Calls Try.prog 31 #[.agg #[.int .i64 (p / q + 1), .int .i64 1], .agg #[.int .i64 r, .int .i64 s]] W (RetW (.int .i64 (sgn ((p / q + 1) * s - r * 1))) W) := fun W => (order_any (p / q + 1) 1 r s W ⟨by omega, by omega⟩ ⟨by omega, by omega⟩ ⟨by omega, by omega⟩ ⟨by omega, by omega⟩).mono fun e w' h => RetW.of h
      have u1 : IntKind.i64.wrap (p / q + 1) = p / q + 1 := IntWalk.i64_in _ (by omega)
      by_cases hr : (p / q + 1) * s ≤ r
      · have e : simpM (f + 1) p q r s = (p / q + 1, 1) := by simp [simpM, hq, hr]
        rw [e]
        clear e
        have d2 : decide (sgn ((p / q + 1) * s - r * 1) ≤ 0) = true := decide_eq_true (sgn_le0.2 (by omega))
        clear hq hr w1 w2
        generalize sgn ((p / q + 1) * s - r * 1) = sg at *
        generalize p / q = g at *
        go_enter Try.func33, Try.ntmps33
        go_wp2_with fail
        rw [← hW3]
        clear hW3
        refine (cf _).mono ?_
        rintro e V1 ⟨v1, rfl, hv1, hn1⟩
        have hb1 : Below (w.heap.size + 1 + 1 + 1) W3 V1 := hb0.trans (hn1.mono (by have := hb0.size; omega))
        clear hn1
        have j0 := (hb1.cell (p := ⟨w.heap.size, 0, none⟩) (by show w.heap.size < w.heap.size + 1 + 1 + 1; omega)).trans k0
        have j1 := (hb1.cell (p := ⟨w.heap.size, 1, none⟩) (by show w.heap.size < w.heap.size + 1 + 1 + 1; omega)).trans k1
        have j2 := (hb1.cell (p := ⟨w.heap.size + 1, 0, none⟩) (by show w.heap.size + 1 < w.heap.size + 1 + 1 + 1; omega)).trans k2
        have j3 := (hb1.cell (p := ⟨w.heap.size + 1, 1, none⟩) (by show w.heap.size + 1 < w.heap.size + 1 + 1 + 1; omega)).trans k3
        subst hv1
        clear cf
        go_wp2_with fail
        clear j0 j1 j2 j3
        refine (co _).mono ?_
        rintro e V2 ⟨v2, rfl, hv2, hn2⟩
        have hb2 : Below (w.heap.size + 1 + 1 + 1) W3 V2 := hb1.trans (hn2.mono (by have := hb1.size; omega))
        clear hn2
        have j0 := (hb2.cell (p := ⟨w.heap.size, 0, none⟩) (by show w.heap.size < w.heap.size + 1 + 1 + 1; omega)).trans k0
        have j1 := (hb2.cell (p := ⟨w.heap.size, 1, none⟩) (by show w.heap.size < w.heap.size + 1 + 1 + 1; omega)).trans k1
        have j2 := (hb2.cell (p := ⟨w.heap.size + 1, 0, none⟩) (by show w.heap.size + 1 < w.heap.size + 1 + 1 + 1; omega)).trans k2
        have j3 := (hb2.cell (p := ⟨w.heap.size + 1, 1, none⟩) (by show w.heap.size + 1 < w.heap.size + 1 + 1 + 1; omega)).trans k3
        subst hv2
        clear co
        have hR := res_fcell (hb := hb2) (by omega) hR3
        have z0 : V2.cell? ⟨w.heap.size + 1 + 1, 0, none⟩ = some (.int .i64 0) := by simp [World.cell?, hR]
        have z1 : V2.cell? ⟨w.heap.size + 1 + 1, 1, none⟩ = some (.int .i64 0) := by simp [World.cell?, hR]
        have f0 : V2.frozen? ⟨w.heap.size + 1 + 1, 0, none⟩ = false := by simp [World.frozen?, hR]
        have f1 : V2.frozen? ⟨w.heap.size + 1 + 1, 1, none⟩ = false := by simp [World.frozen?, hR]
        clear hR
        go_wp2
        refine bodyPost_ret (v := .agg #[.int .i64 (g + 1), .int .i64 1]) (by simp [results, Try.results33, go_sem, z0, z1]) rfl ⟨rfl, ?_⟩
        exact ((HB3.out.trans ((hb2).mono (by omega))).setCell (by show w.heap.size ≤ w.heap.size + 1 + 1; omega) _).setCell (by show w.heap.size ≤ w.heap.size + 1 + 1; omega) _
      · obtain ⟨hs, _, _⟩ := h.step hq hr
        have i := fun W => (simplest_any f s (r - p / q * s) q (p - p / q * q) W hs (by have := h.step hq hr; omega)).mono fun e w' h => RetW.of h
        obtain ⟨x1, x2, x3, -, -, -⟩ := simpM_spec f s (r - p / q * s) q (p - p / q * q) hs (by have := h.step hq hr; omega)
        have hxl := simpM_le h hf
        have e : simpM (f + 1) p q r s = (p / q * (simpM f s (r - p / q * s) q (p - p / q * q)).1 + (simpM f s (r - p / q * s) q (p - p / q * q)).2, (simpM f s (r - p / q * s) q (p - p / q * q)).1) := by simp only [simpM, hq, hr, if_false]
        rw [e] at hxl ⊢
        clear e
        have y1 := hs.q1
        have y2 := hs.s1
        have d2 : decide (sgn ((p / q + 1) * s - r * 1) ≤ 0) = false := decide_eq_false (fun h => by have := sgn_le0.1 h; omega)
        clear hq hr hs
        generalize sgn ((p / q + 1) * s - r * 1) = sg at *
        generalize simpM f s (r - p / q * s) q (p - p / q * q) = x at *
        obtain ⟨m, d⟩ := x
        simp only at *
        generalize p / q = g at *
        have hgm : 0 ≤ g * m := Int.mul_nonneg w0 (by omega)
        have hgs : 0 ≤ g * s := Int.mul_nonneg w0 (by omega)
        have hgq : 0 ≤ g * q := Int.mul_nonneg w0 (by omega)
        have u2 : IntKind.i64.wrap (g * s) = g * s := IntWalk.i64_in _ (by omega)
        have u3 : IntKind.i64.wrap (g * q) = g * q := IntWalk.i64_in _ (by omega)
        have u4 : IntKind.i64.wrap (r - g * s) = r - g * s := IntWalk.i64_in _ (by omega)
        have u5 : IntKind.i64.wrap (p - g * q) = p - g * q := IntWalk.i64_in _ (by omega)
        have u6 : IntKind.i64.wrap (g * m) = g * m := IntWalk.i64_in _ (by omega)
        have u7 : IntKind.i64.wrap (g * m + d) = g * m + d := IntWalk.i64_in _ (by omega)
        clear hgm hgs hgq hxl x3
        go_enter Try.func33, Try.ntmps33
        go_wp2_with fail
        rw [← hW3]
        clear hW3
        refine (cf _).mono ?_
        rintro e V1 ⟨v1, rfl, hv1, hn1⟩
        have hb1 : Below (w.heap.size + 1 + 1 + 1) W3 V1 := hb0.trans (hn1.mono (by have := hb0.size; omega))
        clear hn1
        have j0 := (hb1.cell (p := ⟨w.heap.size, 0, none⟩) (by show w.heap.size < w.heap.size + 1 + 1 + 1; omega)).trans k0
        have j1 := (hb1.cell (p := ⟨w.heap.size, 1, none⟩) (by show w.heap.size < w.heap.size + 1 + 1 + 1; omega)).trans k1
        have j2 := (hb1.cell (p := ⟨w.heap.size + 1, 0, none⟩) (by show w.heap.size + 1 < w.heap.size + 1 + 1 + 1; omega)).trans k2
        have j3 := (hb1.cell (p := ⟨w.heap.size + 1, 1, none⟩) (by show w.heap.size + 1 < w.heap.size + 1 + 1 + 1; omega)).trans k3
        subst hv1
        clear cf
        go_wp2_with fail
        clear j0 j1 j2 j3
        refine (co _).mono ?_
        rintro e V2 ⟨v2, rfl, hv2, hn2⟩
        have hb2 : Below (w.heap.size + 1 + 1 + 1) W3 V2 := hb1.trans (hn2.mono (by have := hb1.size; omega))
        clear hn2
        have j0 := (hb2.cell (p := ⟨w.heap.size, 0, none⟩) (by show w.heap.size < w.heap.size + 1 + 1 + 1; omega)).trans k0
        have j1 := (hb2.cell (p := ⟨w.heap.size, 1, none⟩) (by show w.heap.size < w.heap.size + 1 + 1 + 1; omega)).trans k1
        have j2 := (hb2.cell (p := ⟨w.heap.size + 1, 0, none⟩) (by show w.heap.size + 1 < w.heap.size + 1 + 1 + 1; omega)).trans k2
        have j3 := (hb2.cell (p := ⟨w.heap.size + 1, 1, none⟩) (by show w.heap.size + 1 < w.heap.size + 1 + 1 + 1; omega)).trans k3
        subst hv2
        clear co
        go_wp2_with fail
        clear j0 j1 j2 j3
        refine (i _).mono ?_
        rintro e V3 ⟨v3, rfl, hv3, hn3⟩
        have hb3 : Below (w.heap.size + 1 + 1 + 1) W3 V3 := hb2.trans (hn3.mono (by have := hb2.size; omega))
        clear hn3
        have j0 := (hb3.cell (p := ⟨w.heap.size, 0, none⟩) (by show w.heap.size < w.heap.size + 1 + 1 + 1; omega)).trans k0
        have j1 := (hb3.cell (p := ⟨w.heap.size, 1, none⟩) (by show w.heap.size < w.heap.size + 1 + 1 + 1; omega)).trans k1
        have j2 := (hb3.cell (p := ⟨w.heap.size + 1, 0, none⟩) (by show w.heap.size + 1 < w.heap.size + 1 + 1 + 1; omega)).trans k2
        have j3 := (hb3.cell (p := ⟨w.heap.size + 1, 1, none⟩) (by show w.heap.size + 1 < w.heap.size + 1 + 1 + 1; omega)).trans k3
        subst hv3
        clear i
        have hsz := hb3.size
        have hA : ∀ o, Below (w.heap.size + 1 + 1 + 1) W3 (V3.alloc o) := fun o => hb3.alloc (by omega) _
        have hAR := fun o => res_fcell (hb := hA o) (by omega) hR3
        have z0 : ∀ o, (V3.alloc o).cell? ⟨w.heap.size + 1 + 1, 0, none⟩ = some (.int .i64 0) := fun o => by simp [World.cell?, hAR o]
        have z1 : ∀ o, (V3.alloc o).cell? ⟨w.heap.size + 1 + 1, 1, none⟩ = some (.int .i64 0) := fun o => by simp [World.cell?, hAR o]
        have f0 : ∀ o, (V3.alloc o).frozen? ⟨w.heap.size + 1 + 1, 0, none⟩ = false := fun o => by simp [World.frozen?, hAR o]
        have f1 : ∀ o, (V3.alloc o).frozen? ⟨w.heap.size + 1 + 1, 1, none⟩ = false := fun o => by simp [World.frozen?, hAR o]
        have HA := Lib.hid hA
        clear hA hAR hR3
        go_wp2
        refine bodyPost_ret (v := .agg #[.int .i64 (g * m + d), .int .i64 m]) (by simp [results, Try.results33, go_sem, z0, z1]) rfl ⟨rfl, ?_⟩
        exact ((HB3.out.trans ((HA.out _).mono (by omega))).setCell (by show w.heap.size ≤ w.heap.size + 1 + 1; omega) _).setCell (by show w.heap.size ≤ w.heap.size + 1 + 1; omega) _

end Go.Proofs.Ytklngjjokbhfpaa
