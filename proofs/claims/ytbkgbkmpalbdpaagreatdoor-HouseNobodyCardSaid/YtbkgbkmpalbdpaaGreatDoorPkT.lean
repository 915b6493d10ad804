/- Texts T U in one. -/
import Derived.Test.YtbkgbkmpalbdpaaGreatDoorPkO
import Derived.Test.YtbkgbkmpalbdpaaGreatDoorS
namespace Go.Proofs.YtbkgbkmpalbdpaaGreatDoor.G
open Go.RowKit

theorem sgn_le0 {z : Int} : sgn z ≤ 0 ↔ z ≤ 0 := by unfold sgn; split <;> (try split) <;> omega
theorem sgn_gt0 {z : Int} : 0 < sgn z ↔ 0 < z := by unfold sgn; split <;> (try split) <;> omega
theorem res_new3 (w : World) (o1 o2 o3 : Obj) : (((w.alloc o1).alloc o2).alloc o3).heap[w.heap.size + 1 + 1]? = some o3 := by
  have := heap_alloc_new ((w.alloc o1).alloc o2) o3
  simpa using this
theorem res_fcell {W V : World} {B T : Nat} {o : Obj} (hB : B < T) (h : W.heap[B]? = some o) (hb : Below T W V) : V.heap[B]? = some o := (hb.block B hB).trans h

set_option maxRecDepth 100000 in
set_option maxHeartbeats 1600000 in
theorem simplest_any : ∀ (f : Nat) (p q r s : Int) (w : World), SOk p q r s → q + s ≤ f →
    Calls Tryz.prog 197 #[.agg #[.int .i64 p, .int .i64 q], .agg #[.int .i64 r, .int .i64 s]] w (RetV (.agg #[.int .i64 (simpM f p q r s).1, .int .i64 (simpM f p q r s).2]) w)
  | 0, p, q, r, s, w, h, hf => by have := h.q1; have := h.s1; omega
  | f + 1, p, q, r, s, w, h, hf => by
    obtain ⟨w0, w1, w2, w3⟩ := h.whole
    have p1 := h.p1
    have p2 := h.p2
    have q1 := h.q1
    have q2 := h.q2
    have r1 := h.r1
    have r2 := h.r2
    have s1 := h.s1
    have s2 := h.s2
    have hB : Below w.heap.size w (((w.alloc (.cells #[.int .i64 p, .int .i64 q] 187)).alloc (.cells #[.int .i64 r, .int .i64 s] 187)).alloc (.cells #[.int .i64 0, .int .i64 0] 187)) := (((Below.refl _ _).alloc (Nat.le_refl _) _).alloc (by simp) _).alloc (by simp; omega) _
    obtain ⟨W3, hW3⟩ : ∃ W3, W3 = ((w.alloc (.cells #[.int .i64 p, .int .i64 q] 187)).alloc (.cells #[.int .i64 r, .int .i64 s] 187)).alloc (.cells #[.int .i64 0, .int .i64 0] 187) := ⟨_, rfl⟩
    have hs3 : W3.heap.size = w.heap.size + 1 + 1 + 1 := by rw [hW3]; simp
    have k0 : W3.cell? ⟨w.heap.size, 0, none⟩ = some (.int .i64 p) := by rw [hW3]; simp [go_sem]
    have k1 : W3.cell? ⟨w.heap.size, 1, none⟩ = some (.int .i64 q) := by rw [hW3]; simp [go_sem]
    have k2 : W3.cell? ⟨w.heap.size + 1, 0, none⟩ = some (.int .i64 r) := by rw [hW3]; simp [go_sem]
    have k3 : W3.cell? ⟨w.heap.size + 1, 1, none⟩ = some (.int .i64 s) := by rw [hW3]; simp [go_sem]
    have hR3 : W3.heap[w.heap.size + 1 + 1]? = some (.cells #[.int .i64 0, .int .i64 0] 187 (0, 0)) := by rw [hW3]; exact res_new3 _ _ _ _
    rw [← hW3] at hB
    have HB3 := Lib.hid hB
    have hb0 := Below.refl (w.heap.size + 1 + 1 + 1) W3
    clear hB
    have cf : ∀ W, Calls Tryz.prog 198 #[.agg #[.int .i64 p, .int .i64 q]] W (RetW (.int .i64 (p / q)) W) := fun W => (floor_any p q W ⟨by omega, by omega⟩ ⟨by omega, by omega⟩).mono fun e w' h => RetW.of h
    by_cases hq : q = 1
    · have e : simpM (f + 1) p q r s = (p, q) := by simp [simpM, hq]
      rw [e]
      clear e
      have d1 : (q == 1) = true := by simp [hq]
      clear hq
      go_enter Tryz.func197, Tryz.ntmps197
      go_wp2_with fail
      rw [← hW3]
      clear hW3
      refine (cf _).mono ?_
      rintro e V1 ⟨v1, rfl, hv1, hn1⟩
      have hb1 : Below (w.heap.size + 1 + 1 + 1) W3 V1 := hb0.trans (hn1.mono (by have := hb0.size; omega))
      clear hn1
      have j0 := (hb1.cell (p := ⟨w.heap.size, 0, none⟩) (by show w.heap.size < w.heap.size + 1 + 1 + 1; omega)).trans k0
      have j1 := (hb1.cell (p := ⟨w.heap.size, 1, none⟩) (by show w.heap.size < w.heap.size + 1 + 1 + 1; omega)).trans k1
      have j2 := (hb1.cell (p := ⟨w.heap.size + 1, 0, none⟩) (by show w.heap.size + 1 < w.heap.size + 1 + 1 + 1; omega)).trans k2
      have j3 := (hb1.cell (p := ⟨w.heap.size + 1, 1, none⟩) (by show w.heap.size + 1 < w.heap.size + 1 + 1 + 1; omega)).trans k3
      clear hv1
      clear cf
      have hR := res_fcell (hb := hb1) (by omega) hR3
      have z0 : V1.cell? ⟨w.heap.size + 1 + 1, 0, none⟩ = some (.int .i64 0) := by simp [World.cell?, hR]
      have z1 : V1.cell? ⟨w.heap.size + 1 + 1, 1, none⟩ = some (.int .i64 0) := by simp [World.cell?, hR]
      have f0 : V1.frozen? ⟨w.heap.size + 1 + 1, 0, none⟩ = false := by simp [World.frozen?, hR]
      have f1 : V1.frozen? ⟨w.heap.size + 1 + 1, 1, none⟩ = false := by simp [World.frozen?, hR]
      clear hR
      go_wp2
      refine bodyPost_ret (v := .agg #[.int .i64 p, .int .i64 q]) (by simp [results, Tryz.results197, go_sem, z0, z1]) rfl ⟨rfl, ?_⟩
      exact ((HB3.out.trans ((hb1).mono (by omega))).setCell (by show w.heap.size ≤ w.heap.size + 1 + 1; omega) _).setCell (by show w.heap.size ≤ w.heap.size + 1 + 1; omega) _
    · have d1 : (q == 1) = false := by simp [hq]
      have co : ∀ W, Calls Tryz.prog 195 #[.agg #[.int .i64 (p / q + 1), .int .i64 1], .agg #[.int .i64 r, .int .i64 s]] W (RetW (.int .i64 (sgn ((p / q + 1) * s - r * 1))) W) := fun W => (order_any (p / q + 1) 1 r s W ⟨by omega, by omega⟩ ⟨by omega, by omega⟩ ⟨by omega, by omega⟩ ⟨by omega, by omega⟩).mono fun e w' h => RetW.of h
      have u1 : IntKind.i64.wrap (p / q + 1) = p / q + 1 := IntWalk.i64_in _ (by omega)
      by_cases hr : (p / q + 1) * s ≤ r
      · have e : simpM (f + 1) p q r s = (p / q + 1, 1) := by simp [simpM, hq, hr]
        rw [e]
        clear e
        have d2 : decide (sgn ((p / q + 1) * s - r * 1) ≤ 0) = true := decide_eq_true (sgn_le0.2 (by omega))
        clear hq hr w1 w2
        generalize sgn ((p / q + 1) * s - r * 1) = sg at *
        generalize p / q = g at *
        go_enter Tryz.func197, Tryz.ntmps197
        go_wp2_with fail
        rw [← hW3]
        clear hW3
        refine (cf _).mono ?_
        rintro e V1 ⟨v1, rfl, hv1, hn1⟩
        have hb1 : Below (w.heap.size + 1 + 1 + 1) W3 V1 := hb0.trans (hn1.mono (by have := hb0.size; omega))
        clear hn1
        have j0 := (hb1.cell (p := ⟨w.heap.size, 0, none⟩) (by show w.heap.size < w.heap.size + 1 + 1 + 1; omega)).trans k0
        have j1 := (hb1.cell (p := ⟨w.heap.size, 1, none⟩) (by show w.heap.size < w.heap.size + 1 + 1 + 1; omega)).trans k1
        have j2 := (hb1.cell (p := ⟨w.heap.size + 1, 0, none⟩) (by show w.heap.size + 1 < w.heap.size + 1 + 1 + 1; omega)).trans k2
        have j3 := (hb1.cell (p := ⟨w.heap.size + 1, 1, none⟩) (by show w.heap.size + 1 < w.heap.size + 1 + 1 + 1; omega)).trans k3
        subst hv1
        clear cf
        go_wp2_with fail
        clear j0 j1 j2 j3
        refine (co _).mono ?_
        rintro e V2 ⟨v2, rfl, hv2, hn2⟩
        have hb2 : Below (w.heap.size + 1 + 1 + 1) W3 V2 := hb1.trans (hn2.mono (by have := hb1.size; omega))
        clear hn2
        have j0 := (hb2.cell (p := ⟨w.heap.size, 0, none⟩) (by show w.heap.size < w.heap.size + 1 + 1 + 1; omega)).trans k0
        have j1 := (hb2.cell (p := ⟨w.heap.size, 1, none⟩) (by show w.heap.size < w.heap.size + 1 + 1 + 1; omega)).trans k1
        have j2 := (hb2.cell (p := ⟨w.heap.size + 1, 0, none⟩) (by show w.heap.size + 1 < w.heap.size + 1 + 1 + 1; omega)).trans k2
        have j3 := (hb2.cell (p := ⟨w.heap.size + 1, 1, none⟩) (by show w.heap.size + 1 < w.heap.size + 1 + 1 + 1; omega)).trans k3
        subst hv2
        clear co
        have hR := res_fcell (hb := hb2) (by omega) hR3
        have z0 : V2.cell? ⟨w.heap.size + 1 + 1, 0, none⟩ = some (.int .i64 0) := by simp [World.cell?, hR]
        have z1 : V2.cell? ⟨w.heap.size + 1 + 1, 1, none⟩ = some (.int .i64 0) := by simp [World.cell?, hR]
        have f0 : V2.frozen? ⟨w.heap.size + 1 + 1, 0, none⟩ = false := by simp [World.frozen?, hR]
        have f1 : V2.frozen? ⟨w.heap.size + 1 + 1, 1, none⟩ = false := by simp [World.frozen?, hR]
        clear hR
        go_wp2
        refine bodyPost_ret (v := .agg #[.int .i64 (g + 1), .int .i64 1]) (by simp [results, Tryz.results197, go_sem, z0, z1]) rfl ⟨rfl, ?_⟩
        exact ((HB3.out.trans ((hb2).mono (by omega))).setCell (by show w.heap.size ≤ w.heap.size + 1 + 1; omega) _).setCell (by show w.heap.size ≤ w.heap.size + 1 + 1; omega) _
      · obtain ⟨hs, _, _⟩ := h.step hq hr
        have i := fun W => (simplest_any f s (r - p / q * s) q (p - p / q * q) W hs (by have := h.step hq hr; omega)).mono fun e w' h => RetW.of h
        obtain ⟨x1, x2, x3, -, -, -⟩ := simpM_spec f s (r - p / q * s) q (p - p / q * q) hs (by have := h.step hq hr; omega)
        have hxl := simpM_le h hf
        have e : simpM (f + 1) p q r s = (p / q * (simpM f s (r - p / q * s) q (p - p / q * q)).1 + (simpM f s (r - p / q * s) q (p - p / q * q)).2, (simpM f s (r - p / q * s) q (p - p / q * q)).1) := by simp only [simpM, hq, hr, if_false]
        rw [e] at hxl ⊢
        clear e
        have y1 := hs.q1
        have y2 := hs.s1
        have d2 : decide (sgn ((p / q + 1) * s - r * 1) ≤ 0) = false := decide_eq_false (fun h => by have := sgn_le0.1 h; omega)
        clear hq hr hs
        generalize sgn ((p / q + 1) * s - r * 1) = sg at *
        generalize simpM f s (r - p / q * s) q (p - p / q * q) = x at *
        obtain ⟨m, d⟩ := x
        simp only at *
        generalize p / q = g at *
        have hgm : 0 ≤ g * m := Int.mul_nonneg w0 (by omega)
        have hgs : 0 ≤ g * s := Int.mul_nonneg w0 (by omega)
        have hgq : 0 ≤ g * q := Int.mul_nonneg w0 (by omega)
        have u2 : IntKind.i64.wrap (g * s) = g * s := IntWalk.i64_in _ (by omega)
        have u3 : IntKind.i64.wrap (g * q) = g * q := IntWalk.i64_in _ (by omega)
        have u4 : IntKind.i64.wrap (r - g * s) = r - g * s := IntWalk.i64_in _ (by omega)
        have u5 : IntKind.i64.wrap (p - g * q) = p - g * q := IntWalk.i64_in _ (by omega)
        have u6 : IntKind.i64.wrap (g * m) = g * m := IntWalk.i64_in _ (by omega)
        have u7 : IntKind.i64.wrap (g * m + d) = g * m + d := IntWalk.i64_in _ (by omega)
        clear hgm hgs hgq hxl x3
        go_enter Tryz.func197, Tryz.ntmps197
        go_wp2_with fail
        rw [← hW3]
        clear hW3
        refine (cf _).mono ?_
        rintro e V1 ⟨v1, rfl, hv1, hn1⟩
        have hb1 : Below (w.heap.size + 1 + 1 + 1) W3 V1 := hb0.trans (hn1.mono (by have := hb0.size; omega))
        clear hn1
        have j0 := (hb1.cell (p := ⟨w.heap.size, 0, none⟩) (by show w.heap.size < w.heap.size + 1 + 1 + 1; omega)).trans k0
        have j1 := (hb1.cell (p := ⟨w.heap.size, 1, none⟩) (by show w.heap.size < w.heap.size + 1 + 1 + 1; omega)).trans k1
        have j2 := (hb1.cell (p := ⟨w.heap.size + 1, 0, none⟩) (by show w.heap.size + 1 < w.heap.size + 1 + 1 + 1; omega)).trans k2
        have j3 := (hb1.cell (p := ⟨w.heap.size + 1, 1, none⟩) (by show w.heap.size + 1 < w.heap.size + 1 + 1 + 1; omega)).trans k3
        subst hv1
        clear cf
        go_wp2_with fail
        clear j0 j1 j2 j3
        refine (co _).mono ?_
        rintro e V2 ⟨v2, rfl, hv2, hn2⟩
        have hb2 : Below (w.heap.size + 1 + 1 + 1) W3 V2 := hb1.trans (hn2.mono (by have := hb1.size; omega))
        clear hn2
        have j0 := (hb2.cell (p := ⟨w.heap.size, 0, none⟩) (by show w.heap.size < w.heap.size + 1 + 1 + 1; omega)).trans k0
        have j1 := (hb2.cell (p := ⟨w.heap.size, 1, none⟩) (by show w.heap.size < w.heap.size + 1 + 1 + 1; omega)).trans k1
        have j2 := (hb2.cell (p := ⟨w.heap.size + 1, 0, none⟩) (by show w.heap.size + 1 < w.heap.size + 1 + 1 + 1; omega)).trans k2
        have j3 := (hb2.cell (p := ⟨w.heap.size + 1, 1, none⟩) (by show w.heap.size + 1 < w.heap.size + 1 + 1 + 1; omega)).trans k3
        subst hv2
        clear co
        go_wp2_with fail
        clear j0 j1 j2 j3
        refine (i _).mono ?_
        rintro e V3 ⟨v3, rfl, hv3, hn3⟩
        have hb3 : Below (w.heap.size + 1 + 1 + 1) W3 V3 := hb2.trans (hn3.mono (by have := hb2.size; omega))
        clear hn3
        have j0 := (hb3.cell (p := ⟨w.heap.size, 0, none⟩) (by show w.heap.size < w.heap.size + 1 + 1 + 1; omega)).trans k0
        have j1 := (hb3.cell (p := ⟨w.heap.size, 1, none⟩) (by show w.heap.size < w.heap.size + 1 + 1 + 1; omega)).trans k1
        have j2 := (hb3.cell (p := ⟨w.heap.size + 1, 0, none⟩) (by show w.heap.size + 1 < w.heap.size + 1 + 1 + 1; omega)).trans k2
        have j3 := (hb3.cell (p := ⟨w.heap.size + 1, 1, none⟩) (by show w.heap.size + 1 < w.heap.size + 1 + 1 + 1; omega)).trans k3
        subst hv3
        clear i
        have hsz := hb3.size
        have hA : ∀ o, Below (w.heap.size + 1 + 1 + 1) W3 (V3.alloc o) := fun o => hb3.alloc (by omega) _
        have hAR := fun o => res_fcell (hb := hA o) (by omega) hR3
        have z0 : ∀ o, (V3.alloc o).cell? ⟨w.heap.size + 1 + 1, 0, none⟩ = some (.int .i64 0) := fun o => by simp [World.cell?, hAR o]
        have z1 : ∀ o, (V3.alloc o).cell? ⟨w.heap.size + 1 + 1, 1, none⟩ = some (.int .i64 0) := fun o => by simp [World.cell?, hAR o]
        have f0 : ∀ o, (V3.alloc o).frozen? ⟨w.heap.size + 1 + 1, 0, none⟩ = false := fun o => by simp [World.frozen?, hAR o]
        have f1 : ∀ o, (V3.alloc o).frozen? ⟨w.heap.size + 1 + 1, 1, none⟩ = false := fun o => by simp [World.frozen?, hAR o]
        have HA := Lib.hid hA
        clear hA hAR hR3
        go_wp2
        refine bodyPost_ret (v := .agg #[.int .i64 (g * m + d), .int .i64 m]) (by simp [results, Tryz.results197, go_sem, z0, z1]) rfl ⟨rfl, ?_⟩
        exact ((HB3.out.trans ((HA.out _).mono (by omega))).setCell (by show w.heap.size ≤ w.heap.size + 1 + 1; omega) _).setCell (by show w.heap.size ≤ w.heap.size + 1 + 1; omega) _

end Go.Proofs.YtbkgbkmpalbdpaaGreatDoor.G

namespace Go.Proofs.YtbkgbkmpalbdpaaGreatDoor.G
open Go.RowKit

/-- What Between answers: a fraction and an error. -/
def betwR (p q r s : Int) : Value :=
  if ¬ (FOk (p, q) ∧ FOk (r, s)) then .tuple #[.agg #[.int .i64 0, .int .i64 0], .int .i64 2]
  else if 0 < p * s - r * q then .tuple #[.agg #[.int .i64 0, .int .i64 0], .int .i64 1]
  else .tuple #[.agg #[.int .i64 (betwM p q r s).1, .int .i64 (betwM p q r s).2], .int .i64 0]

theorem FOk.sok {p q r s : Int} (h : FOk (p, q)) (k : FOk (r, s)) (hp : 0 < p) (hr : 0 < r) (hle : ¬ 0 < p * s - r * q) : SOk p q r s := by
  obtain ⟨a1, a2, a3, a4⟩ := h
  obtain ⟨b1, b2, b3, b4⟩ := k
  simp only at *
  exact ⟨by omega, by omega, by omega, by omega, by omega, by omega, by omega, by omega, by omega, a4, b4⟩
theorem FOk.neg {p q : Int} (h : FOk (p, q)) : FOk (-p, q) := by
  obtain ⟨a1, a2, a3, a4⟩ := h
  simp only at *
  exact ⟨by simp only; omega, by simp only; omega, by simp only; omega, by simp only [Int.natAbs_neg]; exact a4⟩

set_option maxRecDepth 100000 in
set_option maxHeartbeats 1600000 in
theorem between_any (p q r s : Int) (w : World) (hp : I64 p) (hq : I64 q) (hr : I64 r) (hs : I64 s) :
    Calls Tryz.prog 130 #[.agg #[.int .i64 p, .int .i64 q], .agg #[.int .i64 r, .int .i64 s]] w (RetV (betwR p q r s) w) := by
  have hB : Below w.heap.size w (((w.alloc (.cells #[.int .i64 p, .int .i64 q] 187)).alloc (.cells #[.int .i64 r, .int .i64 s] 187)).alloc (.cells #[.int .i64 0, .int .i64 0] 187)) := (((Below.refl _ _).alloc (Nat.le_refl _) _).alloc (by simp) _).alloc (by simp; omega) _
  obtain ⟨W3, hW3⟩ : ∃ W3, W3 = ((w.alloc (.cells #[.int .i64 p, .int .i64 q] 187)).alloc (.cells #[.int .i64 r, .int .i64 s] 187)).alloc (.cells #[.int .i64 0, .int .i64 0] 187) := ⟨_, rfl⟩
  have hs3 : W3.heap.size = w.heap.size + 1 + 1 + 1 := by rw [hW3]; simp
  have k0 : W3.cell? ⟨w.heap.size, 0, none⟩ = some (.int .i64 p) := by rw [hW3]; simp [go_sem]
  have k1 : W3.cell? ⟨w.heap.size, 1, none⟩ = some (.int .i64 q) := by rw [hW3]; simp [go_sem]
  have k2 : W3.cell? ⟨w.heap.size + 1, 0, none⟩ = some (.int .i64 r) := by rw [hW3]; simp [go_sem]
  have k3 : W3.cell? ⟨w.heap.size + 1, 1, none⟩ = some (.int .i64 s) := by rw [hW3]; simp [go_sem]
  have hR3 : W3.heap[w.heap.size + 1 + 1]? = some (.cells #[.int .i64 0, .int .i64 0] 187 (0, 0)) := by rw [hW3]; exact res_new3 _ _ _ _
  rw [← hW3] at hB
  have HB3 := Lib.hid hB
  have hb0 := Below.refl (w.heap.size + 1 + 1 + 1) W3
  clear hB
  have hI : I64s [(p, q), (r, s)] := fun x hx => by simp at hx; rcases hx with rfl | rfl; exact ⟨hp, hq⟩; exact ⟨hr, hs⟩
  have ev : decide (∀ x ∈ [(p, q), (r, s)], FOk x) = decide (FOk (p, q) ∧ FOk (r, s)) := by simp
  have cv : ∀ W, W = W3.alloc (.cells #[.int .i64 p, .int .i64 q, .int .i64 r, .int .i64 s] 187) → Calls Tryz.prog 194 #[.slice (some ⟨w.heap.size + 1 + 1 + 1, 0, none⟩) 2 2] W (RetW (.bool (decide (FOk (p, q) ∧ FOk (r, s)))) W) := fun W hW => by
    rw [← ev]
    refine (valid_any _ 2 2 [(p, q), (r, s)] W (.inr ⟨_, 0, rfl, by rw [hW]; simp [hs3], fun k hk => ?_⟩) rfl (by omega) hI).mono fun e w' h => RetW.of h
    rw [← hs3, hW]
    match k, hk with
    | 0, _ => exact ⟨by simp [go_sem], by simp [go_sem]⟩
    | 1, _ => exact ⟨by simp [go_sem], by simp [go_sem]⟩
  clear ev hI
  by_cases hv : FOk (p, q) ∧ FOk (r, s)
  · obtain ⟨hv1, hv2⟩ := hv
    have d1 : decide (FOk (p, q) ∧ FOk (r, s)) = true := decide_eq_true ⟨hv1, hv2⟩
    have co : ∀ W, Calls Tryz.prog 195 #[.agg #[.int .i64 p, .int .i64 q], .agg #[.int .i64 r, .int .i64 s]] W (RetW (.int .i64 (sgn (p * s - r * q))) W) := fun W => (order_any p q r s W hp hq hr hs).mono fun e w' h => RetW.of h
    clear hp hq hr hs
    by_cases h2 : 0 < p * s - r * q
    · have hres : betwR p q r s = .tuple #[.agg #[.int .i64 0, .int .i64 0], .int .i64 1] := by rw [betwR, if_neg (fun h => h ⟨hv1, hv2⟩), if_pos h2]
      have HRES := Lib.hid hres
      have d2 : decide (0 < sgn (p * s - r * q)) = true := decide_eq_true (sgn_gt0.2 h2)
      clear hres h2 hv1 hv2
      generalize decide (FOk (p, q) ∧ FOk (r, s)) = vb at *
      subst d1
      generalize sgn (p * s - r * q) = sg at *
      go_enter Tryz.func130, Tryz.ntmps130
      go_wp2_with fail
      rw [← hW3]
      clear hW3
      refine (cv _ rfl).mono ?_
      rintro e V1 ⟨v1, rfl, hv1, hn1⟩
      have hb1 : Below (w.heap.size + 1 + 1 + 1) W3 V1 := (hb0.alloc (by omega) _).trans (hn1.mono (by simp; omega))
      subst hv1
      clear hn1 cv
      have j0 := (hb1.cell (p := ⟨w.heap.size, 0, none⟩) (by show w.heap.size < w.heap.size + 1 + 1 + 1; omega)).trans k0
      have j1 := (hb1.cell (p := ⟨w.heap.size, 1, none⟩) (by show w.heap.size < w.heap.size + 1 + 1 + 1; omega)).trans k1
      have j2 := (hb1.cell (p := ⟨w.heap.size + 1, 0, none⟩) (by show w.heap.size + 1 < w.heap.size + 1 + 1 + 1; omega)).trans k2
      have j3 := (hb1.cell (p := ⟨w.heap.size + 1, 1, none⟩) (by show w.heap.size + 1 < w.heap.size + 1 + 1 + 1; omega)).trans k3
      go_wp2_with fail
      clear j0 j1 j2 j3
      refine (co _).mono ?_
      rintro e V2 ⟨v2, rfl, hv2, hn2⟩
      have hb2 : Below (w.heap.size + 1 + 1 + 1) W3 V2 := hb1.trans (hn2.mono (by have := hb1.size; omega))
      clear hn2
      have j0 := (hb2.cell (p := ⟨w.heap.size, 0, none⟩) (by show w.heap.size < w.heap.size + 1 + 1 + 1; omega)).trans k0
      have j1 := (hb2.cell (p := ⟨w.heap.size, 1, none⟩) (by show w.heap.size < w.heap.size + 1 + 1 + 1; omega)).trans k1
      have j2 := (hb2.cell (p := ⟨w.heap.size + 1, 0, none⟩) (by show w.heap.size + 1 < w.heap.size + 1 + 1 + 1; omega)).trans k2
      have j3 := (hb2.cell (p := ⟨w.heap.size + 1, 1, none⟩) (by show w.heap.size + 1 < w.heap.size + 1 + 1 + 1; omega)).trans k3
      subst hv2
      clear co
      have hR := res_fcell (hb := hb2) (by omega) hR3
      have z0 : V2.cell? ⟨w.heap.size + 1 + 1, 0, none⟩ = some (.int .i64 0) := by simp [World.cell?, hR]
      have z1 : V2.cell? ⟨w.heap.size + 1 + 1, 1, none⟩ = some (.int .i64 0) := by simp [World.cell?, hR]
      have f0 : V2.frozen? ⟨w.heap.size + 1 + 1, 0, none⟩ = false := by simp [World.frozen?, hR]
      have f1 : V2.frozen? ⟨w.heap.size + 1 + 1, 1, none⟩ = false := by simp [World.frozen?, hR]
      clear hR
      go_wp2
      refine bodyPost_ret (v := .tuple #[.agg #[.int .i64 0, .int .i64 0], .int .i64 1]) (by simp [results, Tryz.results130, go_sem, z0, z1]) rfl ⟨?_, ?_⟩
      · rw [HRES.out]
      · exact ((HB3.out.trans ((hb2).mono (by omega))).setCell (by show w.heap.size ≤ w.heap.size + 1 + 1; omega) _).setCell (by show w.heap.size ≤ w.heap.size + 1 + 1; omega) _
    · have d2 : decide (0 < sgn (p * s - r * q)) = false := decide_eq_false (fun h => h2 (sgn_gt0.1 h))
      by_cases h3 : p ≤ 0 ∧ 0 ≤ r
      · have hres : betwR p q r s = .tuple #[.agg #[.int .i64 0, .int .i64 1], .int .i64 0] := by rw [betwR, if_neg (fun h => h ⟨hv1, hv2⟩), if_neg h2, betwM, if_pos h3]
        have HRES := Lib.hid hres
        have d3 : decide (p ≤ 0) = true := decide_eq_true h3.1
        have d4 : decide (0 ≤ r) = true := decide_eq_true h3.2
        clear hres h2 hv1 hv2 h3
        generalize decide (FOk (p, q) ∧ FOk (r, s)) = vb at *
        subst d1
        generalize sgn (p * s - r * q) = sg at *
        go_enter Tryz.func130, Tryz.ntmps130
        go_wp2_with fail
        rw [← hW3]
        clear hW3
        refine (cv _ rfl).mono ?_
        rintro e V1 ⟨v1, rfl, hv1, hn1⟩
        have hb1 : Below (w.heap.size + 1 + 1 + 1) W3 V1 := (hb0.alloc (by omega) _).trans (hn1.mono (by simp; omega))
        subst hv1
        clear hn1 cv
        have j0 := (hb1.cell (p := ⟨w.heap.size, 0, none⟩) (by show w.heap.size < w.heap.size + 1 + 1 + 1; omega)).trans k0
        have j1 := (hb1.cell (p := ⟨w.heap.size, 1, none⟩) (by show w.heap.size < w.heap.size + 1 + 1 + 1; omega)).trans k1
        have j2 := (hb1.cell (p := ⟨w.heap.size + 1, 0, none⟩) (by show w.heap.size + 1 < w.heap.size + 1 + 1 + 1; omega)).trans k2
        have j3 := (hb1.cell (p := ⟨w.heap.size + 1, 1, none⟩) (by show w.heap.size + 1 < w.heap.size + 1 + 1 + 1; omega)).trans k3
        go_wp2_with fail
        clear j0 j1 j2 j3
        refine (co _).mono ?_
        rintro e V2 ⟨v2, rfl, hv2, hn2⟩
        have hb2 : Below (w.heap.size + 1 + 1 + 1) W3 V2 := hb1.trans (hn2.mono (by have := hb1.size; omega))
        clear hn2
        have j0 := (hb2.cell (p := ⟨w.heap.size, 0, none⟩) (by show w.heap.size < w.heap.size + 1 + 1 + 1; omega)).trans k0
        have j1 := (hb2.cell (p := ⟨w.heap.size, 1, none⟩) (by show w.heap.size < w.heap.size + 1 + 1 + 1; omega)).trans k1
        have j2 := (hb2.cell (p := ⟨w.heap.size + 1, 0, none⟩) (by show w.heap.size + 1 < w.heap.size + 1 + 1 + 1; omega)).trans k2
        have j3 := (hb2.cell (p := ⟨w.heap.size + 1, 1, none⟩) (by show w.heap.size + 1 < w.heap.size + 1 + 1 + 1; omega)).trans k3
        subst hv2
        clear co
        have hR := res_fcell (hb := hb2) (by omega) hR3
        have z0 : V2.cell? ⟨w.heap.size + 1 + 1, 0, none⟩ = some (.int .i64 0) := by simp [World.cell?, hR]
        have z1 : V2.cell? ⟨w.heap.size + 1 + 1, 1, none⟩ = some (.int .i64 0) := by simp [World.cell?, hR]
        have f0 : V2.frozen? ⟨w.heap.size + 1 + 1, 0, none⟩ = false := by simp [World.frozen?, hR]
        have f1 : V2.frozen? ⟨w.heap.size + 1 + 1, 1, none⟩ = false := by simp [World.frozen?, hR]
        clear hR
        go_wp2
        refine bodyPost_ret (v := .tuple #[.agg #[.int .i64 0, .int .i64 1], .int .i64 0]) (by simp [results, Tryz.results130, go_sem, z0, z1]) rfl ⟨?_, ?_⟩
        · rw [HRES.out]
        · exact ((HB3.out.trans ((hb2).mono (by omega))).setCell (by show w.heap.size ≤ w.heap.size + 1 + 1; omega) _).setCell (by show w.heap.size ≤ w.heap.size + 1 + 1; omega) _
      · by_cases h4 : r < 0
        · have hres : betwR p q r s = .tuple #[.agg #[.int .i64 (-(simpM (s + q).toNat (-r) s (-p) q).1), .int .i64 (simpM (s + q).toNat (-r) s (-p) q).2], .int .i64 0] := by
            rw [betwR, if_neg (fun h => h ⟨hv1, hv2⟩), if_neg h2, betwM, if_neg h3, if_pos h4]
          have HRES := Lib.hid hres
          have hq1 : 1 ≤ q := hv1.1
          have hs1 : 1 ≤ s := hv2.1
          have hp0 : p < 0 := by
            have h5 : p * s ≤ r * q := by omega
            have h6 : r * q < 0 := Int.mul_neg_of_neg_of_pos h4 (by omega)
            rcases Int.lt_or_le p 0 with h | h
            · exact h
            · have := Int.mul_nonneg h (show 0 ≤ s by omega); omega
          have hso : SOk (-r) s (-p) q := FOk.sok hv2.neg hv1.neg (by omega) (by omega) (by rw [Int.neg_mul, Int.neg_mul]; omega)
          have hle := simpM_le (f := (s + q).toNat) hso (by omega)
          have hpos := (simpM_spec (s + q).toNat _ _ _ _ hso (by omega)).1
          have ct1 : ∀ W, Calls Tryz.prog 196 #[.agg #[.int .i64 r, .int .i64 s]] W (RetW (.agg #[.int .i64 (-r), .int .i64 s]) W) := fun W => (turned_any r s W (by have := hso.p2; omega)).mono fun e w' h => RetW.of h
          have ct2 : ∀ W, Calls Tryz.prog 196 #[.agg #[.int .i64 p, .int .i64 q]] W (RetW (.agg #[.int .i64 (-p), .int .i64 q]) W) := fun W => (turned_any p q W (by have := hso.r2; omega)).mono fun e w' h => RetW.of h
          have cs : ∀ W, Calls Tryz.prog 197 #[.agg #[.int .i64 (-r), .int .i64 s], .agg #[.int .i64 (-p), .int .i64 q]] W (RetW (.agg #[.int .i64 (simpM (s + q).toNat (-r) s (-p) q).1, .int .i64 (simpM (s + q).toNat (-r) s (-p) q).2]) W) := fun W => (simplest_any _ _ _ _ _ W hso (by omega)).mono fun e w' h => RetW.of h
          generalize simpM (s + q).toNat (-r) s (-p) q = x at *
          obtain ⟨m, d⟩ := x
          simp only at hle hpos cs HRES
          have ct3 : ∀ W, Calls Tryz.prog 196 #[.agg #[.int .i64 m, .int .i64 d]] W (RetW (.agg #[.int .i64 (-m), .int .i64 d]) W) := fun W => (turned_any m d W (by have := hso.p2; omega)).mono fun e w' h => RetW.of h
          have d3 : decide (p ≤ 0) = true := decide_eq_true (by omega)
          have d4 : decide (0 ≤ r) = false := decide_eq_false (by omega)
          have d5 : decide (r < 0) = true := decide_eq_true h4
          clear hres h2 hv1 hv2 h3 h4 hso hle hpos hp0 hq1 hs1
          generalize decide (FOk (p, q) ∧ FOk (r, s)) = vb at *
          subst d1
          generalize sgn (p * s - r * q) = sg at *
          go_enter Tryz.func130, Tryz.ntmps130
          go_wp2_with fail
          rw [← hW3]
          clear hW3
          refine (cv _ rfl).mono ?_
          rintro e V1 ⟨v1, rfl, hv1, hn1⟩
          have hb1 : Below (w.heap.size + 1 + 1 + 1) W3 V1 := (hb0.alloc (by omega) _).trans (hn1.mono (by simp; omega))
          subst hv1
          clear hn1 cv
          have j0 := (hb1.cell (p := ⟨w.heap.size, 0, none⟩) (by show w.heap.size < w.heap.size + 1 + 1 + 1; omega)).trans k0
          have j1 := (hb1.cell (p := ⟨w.heap.size, 1, none⟩) (by show w.heap.size < w.heap.size + 1 + 1 + 1; omega)).trans k1
          have j2 := (hb1.cell (p := ⟨w.heap.size + 1, 0, none⟩) (by show w.heap.size + 1 < w.heap.size + 1 + 1 + 1; omega)).trans k2
          have j3 := (hb1.cell (p := ⟨w.heap.size + 1, 1, none⟩) (by show w.heap.size + 1 < w.heap.size + 1 + 1 + 1; omega)).trans k3
          go_wp2_with fail
          clear j0 j1 j2 j3
          refine (co _).mono ?_
          rintro e V2 ⟨v2, rfl, hv2, hn2⟩
          have hb2 : Below (w.heap.size + 1 + 1 + 1) W3 V2 := hb1.trans (hn2.mono (by have := hb1.size; omega))
          clear hn2
          have j0 := (hb2.cell (p := ⟨w.heap.size, 0, none⟩) (by show w.heap.size < w.heap.size + 1 + 1 + 1; omega)).trans k0
          have j1 := (hb2.cell (p := ⟨w.heap.size, 1, none⟩) (by show w.heap.size < w.heap.size + 1 + 1 + 1; omega)).trans k1
          have j2 := (hb2.cell (p := ⟨w.heap.size + 1, 0, none⟩) (by show w.heap.size + 1 < w.heap.size + 1 + 1 + 1; omega)).trans k2
          have j3 := (hb2.cell (p := ⟨w.heap.size + 1, 1, none⟩) (by show w.heap.size + 1 < w.heap.size + 1 + 1 + 1; omega)).trans k3
          subst hv2
          clear co
          go_wp2_with fail
          refine Lex.wp_region_lex (fun w' => w'.cell? ⟨w.heap.size, 0, none⟩ = some (.int .i64 p) ∧ w'.cell? ⟨w.heap.size, 1, none⟩ = some (.int .i64 q) ∧ w'.cell? ⟨w.heap.size + 1, 0, none⟩ = some (.int .i64 r) ∧ w'.cell? ⟨w.heap.size + 1, 1, none⟩ = some (.int .i64 s)) (fun j => decide (j < 6))
            [(0, true), (2, true), (1, false), (3, false), (4, false), (5, false), (6, false), (7, false)]
            (by kernel_rfl) (by kernel_rfl) (by kernel_rfl) (by kernel_rfl) ⟨j0, j1, j2, j3⟩ ?_
          iterate 2 (refine Lex.lex_take (v := ?_) rfl rfl (by rfl) (fun _ hS => ?_) ?_; rotate_left 1; (focus (go_split_ands; go_simp; with_reducible rfl)); simp only [List.setIfInBounds_toArray, List.set_cons_zero, List.set_cons_succ])
          refine Lex.lex_do rfl ?_
          have hb3 : Below (w.heap.size + 1 + 1 + 1) W3 V2.drew := hb2.drew
          generalize V2.drew = V3 at *
          clear hb2 j0 j1 j2 j3
          go_wp2_with fail
          refine (ct1 _).mono ?_
          rintro e V4 ⟨v4, rfl, hv4, hn4⟩
          have hb4 : Below (w.heap.size + 1 + 1 + 1) W3 V4 := hb3.trans (hn4.mono (by have := hb3.size; omega))
          clear hn4
          have j0 := (hb4.cell (p := ⟨w.heap.size, 0, none⟩) (by show w.heap.size < w.heap.size + 1 + 1 + 1; omega)).trans k0
          have j1 := (hb4.cell (p := ⟨w.heap.size, 1, none⟩) (by show w.heap.size < w.heap.size + 1 + 1 + 1; omega)).trans k1
          have j2 := (hb4.cell (p := ⟨w.heap.size + 1, 0, none⟩) (by show w.heap.size + 1 < w.heap.size + 1 + 1 + 1; omega)).trans k2
          have j3 := (hb4.cell (p := ⟨w.heap.size + 1, 1, none⟩) (by show w.heap.size + 1 < w.heap.size + 1 + 1 + 1; omega)).trans k3
          subst hv4
          clear ct1
          go_wp2_with fail
          refine Lex.lexQ_normal (fun _ => ⟨j0, j1, j2, j3⟩) ?_
          clear j0 j1 j2 j3
          refine Lex.lex_do rfl ?_
          go_wp2_with fail
          refine (ct2 _).mono ?_
          rintro e V5 ⟨v5, rfl, hv5, hn5⟩
          have hb5 : Below (w.heap.size + 1 + 1 + 1) W3 V5 := hb4.trans (hn5.mono (by have := hb4.size; omega))
          clear hn5
          have j0 := (hb5.cell (p := ⟨w.heap.size, 0, none⟩) (by show w.heap.size < w.heap.size + 1 + 1 + 1; omega)).trans k0
          have j1 := (hb5.cell (p := ⟨w.heap.size, 1, none⟩) (by show w.heap.size < w.heap.size + 1 + 1 + 1; omega)).trans k1
          have j2 := (hb5.cell (p := ⟨w.heap.size + 1, 0, none⟩) (by show w.heap.size + 1 < w.heap.size + 1 + 1 + 1; omega)).trans k2
          have j3 := (hb5.cell (p := ⟨w.heap.size + 1, 1, none⟩) (by show w.heap.size + 1 < w.heap.size + 1 + 1 + 1; omega)).trans k3
          subst hv5
          clear ct2
          go_wp2_with fail
          refine Lex.lexQ_normal (fun _ => ⟨j0, j1, j2, j3⟩) ?_
          clear j0 j1 j2 j3
          refine Lex.lex_do rfl ?_
          go_wp2_with fail
          refine (cs _).mono ?_
          rintro e V6 ⟨v6, rfl, hv6, hn6⟩
          have hb6 : Below (w.heap.size + 1 + 1 + 1) W3 V6 := hb5.trans (hn6.mono (by have := hb5.size; omega))
          clear hn6
          have j0 := (hb6.cell (p := ⟨w.heap.size, 0, none⟩) (by show w.heap.size < w.heap.size + 1 + 1 + 1; omega)).trans k0
          have j1 := (hb6.cell (p := ⟨w.heap.size, 1, none⟩) (by show w.heap.size < w.heap.size + 1 + 1 + 1; omega)).trans k1
          have j2 := (hb6.cell (p := ⟨w.heap.size + 1, 0, none⟩) (by show w.heap.size + 1 < w.heap.size + 1 + 1 + 1; omega)).trans k2
          have j3 := (hb6.cell (p := ⟨w.heap.size + 1, 1, none⟩) (by show w.heap.size + 1 < w.heap.size + 1 + 1 + 1; omega)).trans k3
          subst hv6
          clear cs
          go_wp2_with fail
          refine Lex.lexQ_normal (fun _ => ⟨j0, j1, j2, j3⟩) ?_
          clear j0 j1 j2 j3
          refine Lex.lex_do rfl ?_
          go_wp2_with fail
          refine (ct3 _).mono ?_
          rintro e V7 ⟨v7, rfl, hv7, hn7⟩
          have hb7 : Below (w.heap.size + 1 + 1 + 1) W3 V7 := hb6.trans (hn7.mono (by have := hb6.size; omega))
          clear hn7
          have j0 := (hb7.cell (p := ⟨w.heap.size, 0, none⟩) (by show w.heap.size < w.heap.size + 1 + 1 + 1; omega)).trans k0
          have j1 := (hb7.cell (p := ⟨w.heap.size, 1, none⟩) (by show w.heap.size < w.heap.size + 1 + 1 + 1; omega)).trans k1
          have j2 := (hb7.cell (p := ⟨w.heap.size + 1, 0, none⟩) (by show w.heap.size + 1 < w.heap.size + 1 + 1 + 1; omega)).trans k2
          have j3 := (hb7.cell (p := ⟨w.heap.size + 1, 1, none⟩) (by show w.heap.size + 1 < w.heap.size + 1 + 1 + 1; omega)).trans k3
          subst hv7
          clear ct3
          go_wp2_with fail
          refine Lex.lexQ_normal (fun _ => ⟨j0, j1, j2, j3⟩) ?_
          clear j0 j1 j2 j3
          refine Lex.lex_do rfl ?_
          have hR := res_fcell (hb := hb7) (by omega) hR3
          have z0 : V7.cell? ⟨w.heap.size + 1 + 1, 0, none⟩ = some (.int .i64 0) := by simp [World.cell?, hR]
          have z1 : V7.cell? ⟨w.heap.size + 1 + 1, 1, none⟩ = some (.int .i64 0) := by simp [World.cell?, hR]
          have f0 : V7.frozen? ⟨w.heap.size + 1 + 1, 0, none⟩ = false := by simp [World.frozen?, hR]
          have f1 : V7.frozen? ⟨w.heap.size + 1 + 1, 1, none⟩ = false := by simp [World.frozen?, hR]
          clear hR
          go_wp2_with fail
          refine Lex.lexQ_normal (fun h => absurd h (by decide)) ?_
          refine Lex.lex_do rfl ?_
          go_wp2_with fail
          refine Lex.lexQ_normal (fun h => absurd h (by decide)) ?_
          refine Lex.lex_nil ?_
          go_wp2
          refine bodyPost_ret (v := .tuple #[.agg #[.int .i64 (-m), .int .i64 d], .int .i64 0]) (by simp [results, Tryz.results130, go_sem, z0, z1]) rfl ⟨?_, ?_⟩
          · rw [HRES.out]
          · exact ((HB3.out.trans ((hb7).mono (by omega))).setCell (by show w.heap.size ≤ w.heap.size + 1 + 1; omega) _).setCell (by show w.heap.size ≤ w.heap.size + 1 + 1; omega) _
        · have hp0 : 0 < p := by omega
          have hr0 : 0 < r := by
            have h5 : p * s ≤ r * q := by omega
            have h6 : 0 < p * s := Int.mul_pos hp0 (by have := hv2.1; simp only at this; omega)
            rcases Int.lt_or_le 0 r with h | h
            · exact h
            · have : r = 0 := by omega
              subst this
              omega
          have hso : SOk p q r s := FOk.sok hv1 hv2 hp0 hr0 h2
          have hres : betwR p q r s = .tuple #[.agg #[.int .i64 (simpM (q + s).toNat p q r s).1, .int .i64 (simpM (q + s).toNat p q r s).2], .int .i64 0] := by
            rw [betwR, if_neg (fun h => h ⟨hv1, hv2⟩), if_neg h2, betwM, if_neg h3, if_neg h4]
          have HRES := Lib.hid hres
          have cs : ∀ W, Calls Tryz.prog 197 #[.agg #[.int .i64 p, .int .i64 q], .agg #[.int .i64 r, .int .i64 s]] W (RetW (.agg #[.int .i64 (simpM (q + s).toNat p q r s).1, .int .i64 (simpM (q + s).toNat p q r s).2]) W) := fun W => (simplest_any _ _ _ _ _ W hso (by have := hso.q1; have := hso.s1; omega)).mono fun e w' h => RetW.of h
          generalize simpM (q + s).toNat p q r s = x at *
          obtain ⟨m, d⟩ := x
          simp only at cs HRES
          have d3 : decide (p ≤ 0) = false := decide_eq_false (by omega)
          have d5 : decide (r < 0) = false := decide_eq_false h4
          clear hres h2 hv1 hv2 h3 h4 hso hr0
          generalize decide (FOk (p, q) ∧ FOk (r, s)) = vb at *
          subst d1
          generalize sgn (p * s - r * q) = sg at *
          go_enter Tryz.func130, Tryz.ntmps130
          go_wp2_with fail
          rw [← hW3]
          clear hW3
          refine (cv _ rfl).mono ?_
          rintro e V1 ⟨v1, rfl, hv1, hn1⟩
          have hb1 : Below (w.heap.size + 1 + 1 + 1) W3 V1 := (hb0.alloc (by omega) _).trans (hn1.mono (by simp; omega))
          subst hv1
          clear hn1 cv
          have j0 := (hb1.cell (p := ⟨w.heap.size, 0, none⟩) (by show w.heap.size < w.heap.size + 1 + 1 + 1; omega)).trans k0
          have j1 := (hb1.cell (p := ⟨w.heap.size, 1, none⟩) (by show w.heap.size < w.heap.size + 1 + 1 + 1; omega)).trans k1
          have j2 := (hb1.cell (p := ⟨w.heap.size + 1, 0, none⟩) (by show w.heap.size + 1 < w.heap.size + 1 + 1 + 1; omega)).trans k2
          have j3 := (hb1.cell (p := ⟨w.heap.size + 1, 1, none⟩) (by show w.heap.size + 1 < w.heap.size + 1 + 1 + 1; omega)).trans k3
          go_wp2_with fail
          clear j0 j1 j2 j3
          refine (co _).mono ?_
          rintro e V2 ⟨v2, rfl, hv2, hn2⟩
          have hb2 : Below (w.heap.size + 1 + 1 + 1) W3 V2 := hb1.trans (hn2.mono (by have := hb1.size; omega))
          clear hn2
          have j0 := (hb2.cell (p := ⟨w.heap.size, 0, none⟩) (by show w.heap.size < w.heap.size + 1 + 1 + 1; omega)).trans k0
          have j1 := (hb2.cell (p := ⟨w.heap.size, 1, none⟩) (by show w.heap.size < w.heap.size + 1 + 1 + 1; omega)).trans k1
          have j2 := (hb2.cell (p := ⟨w.heap.size + 1, 0, none⟩) (by show w.heap.size + 1 < w.heap.size + 1 + 1 + 1; omega)).trans k2
          have j3 := (hb2.cell (p := ⟨w.heap.size + 1, 1, none⟩) (by show w.heap.size + 1 < w.heap.size + 1 + 1 + 1; omega)).trans k3
          subst hv2
          clear co
          go_wp2_with fail
          clear j0 j1 j2 j3
          refine (cs _).mono ?_
          rintro e V3 ⟨v3, rfl, hv3, hn3⟩
          have hb3 : Below (w.heap.size + 1 + 1 + 1) W3 V3 := hb2.trans (hn3.mono (by have := hb2.size; omega))
          clear hn3
          have j0 := (hb3.cell (p := ⟨w.heap.size, 0, none⟩) (by show w.heap.size < w.heap.size + 1 + 1 + 1; omega)).trans k0
          have j1 := (hb3.cell (p := ⟨w.heap.size, 1, none⟩) (by show w.heap.size < w.heap.size + 1 + 1 + 1; omega)).trans k1
          have j2 := (hb3.cell (p := ⟨w.heap.size + 1, 0, none⟩) (by show w.heap.size + 1 < w.heap.size + 1 + 1 + 1; omega)).trans k2
          have j3 := (hb3.cell (p := ⟨w.heap.size + 1, 1, none⟩) (by show w.heap.size + 1 < w.heap.size + 1 + 1 + 1; omega)).trans k3
          subst hv3
          clear cs
          have hR := res_fcell (hb := hb3) (by omega) hR3
          have z0 : V3.cell? ⟨w.heap.size + 1 + 1, 0, none⟩ = some (.int .i64 0) := by simp [World.cell?, hR]
          have z1 : V3.cell? ⟨w.heap.size + 1 + 1, 1, none⟩ = some (.int .i64 0) := by simp [World.cell?, hR]
          have f0 : V3.frozen? ⟨w.heap.size + 1 + 1, 0, none⟩ = false := by simp [World.frozen?, hR]
          have f1 : V3.frozen? ⟨w.heap.size + 1 + 1, 1, none⟩ = false := by simp [World.frozen?, hR]
          clear hR
          go_wp2
          refine bodyPost_ret (v := .tuple #[.agg #[.int .i64 m, .int .i64 d], .int .i64 0]) (by simp [results, Tryz.results130, go_sem, z0, z1]) rfl ⟨?_, ?_⟩
          · rw [HRES.out]
          · exact ((HB3.out.trans ((hb3).mono (by omega))).setCell (by show w.heap.size ≤ w.heap.size + 1 + 1; omega) _).setCell (by show w.heap.size ≤ w.heap.size + 1 + 1; omega) _
  · have hres : betwR p q r s = .tuple #[.agg #[.int .i64 0, .int .i64 0], .int .i64 2] := by simp [betwR, hv]
    have HRES := Lib.hid hres
    have d1 : decide (FOk (p, q) ∧ FOk (r, s)) = false := decide_eq_false hv
    clear hres
    generalize decide (FOk (p, q) ∧ FOk (r, s)) = vb at *
    subst d1
    clear hv hp hq hr hs
    go_enter Tryz.func130, Tryz.ntmps130
    go_wp2_with fail
    rw [← hW3]
    clear hW3
    refine (cv _ rfl).mono ?_
    rintro e V1 ⟨v1, rfl, hv1, hn1⟩
    have hb1 : Below (w.heap.size + 1 + 1 + 1) W3 V1 := (hb0.alloc (by omega) _).trans (hn1.mono (by simp; omega))
    subst hv1
    clear hn1 cv
    have j0 := (hb1.cell (p := ⟨w.heap.size, 0, none⟩) (by show w.heap.size < w.heap.size + 1 + 1 + 1; omega)).trans k0
    have j1 := (hb1.cell (p := ⟨w.heap.size, 1, none⟩) (by show w.heap.size < w.heap.size + 1 + 1 + 1; omega)).trans k1
    have j2 := (hb1.cell (p := ⟨w.heap.size + 1, 0, none⟩) (by show w.heap.size + 1 < w.heap.size + 1 + 1 + 1; omega)).trans k2
    have j3 := (hb1.cell (p := ⟨w.heap.size + 1, 1, none⟩) (by show w.heap.size + 1 < w.heap.size + 1 + 1 + 1; omega)).trans k3
    have hR := res_fcell (hb := hb1) (by omega) hR3
    have z0 : V1.cell? ⟨w.heap.size + 1 + 1, 0, none⟩ = some (.int .i64 0) := by simp [World.cell?, hR]
    have z1 : V1.cell? ⟨w.heap.size + 1 + 1, 1, none⟩ = some (.int .i64 0) := by simp [World.cell?, hR]
    have f0 : V1.frozen? ⟨w.heap.size + 1 + 1, 0, none⟩ = false := by simp [World.frozen?, hR]
    have f1 : V1.frozen? ⟨w.heap.size + 1 + 1, 1, none⟩ = false := by simp [World.frozen?, hR]
    clear hR
    go_wp2
    refine bodyPost_ret (v := .tuple #[.agg #[.int .i64 0, .int .i64 0], .int .i64 2]) (by simp [results, Tryz.results130, go_sem, z0, z1]) rfl ⟨?_, ?_⟩
    · rw [HRES.out]
    · exact ((HB3.out.trans ((hb1).mono (by omega))).setCell (by show w.heap.size ≤ w.heap.size + 1 + 1; omega) _).setCell (by show w.heap.size ≤ w.heap.size + 1 + 1; omega) _


end Go.Proofs.YtbkgbkmpalbdpaaGreatDoor.G
