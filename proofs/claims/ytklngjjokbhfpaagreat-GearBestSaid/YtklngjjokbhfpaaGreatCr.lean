/- is; ref.round. -/
import Derived.Test.YtklngjjokbhfpaaGreatCj
import Derived.Deep.DeepCutAuto
namespace Go.Proofs.YtklngjjokbhfpaaGreat
open Go.RowKit

/-- A quotient by a denominator that is not below the factor. -/
theorem quot_bd {p q d : Int} (hp : p.natAbs ≤ 4611686018427387904) (hd : 1 ≤ d) (hdq : d ≤ q) : -4611686018427387904 ≤ p * d / q ∧ p * d / q ≤ 4611686018427387904 := by
  have hq : 0 < q := by omega
  constructor
  · refine (Int.le_ediv_iff_mul_le hq).2 ?_
    have h1 : -(p.natAbs : Int) * d ≤ p * d := Int.mul_le_mul_of_nonneg_right (by omega) (by omega)
    have h2 : -4611686018427387904 * d ≤ -(p.natAbs : Int) * d := Int.mul_le_mul_of_nonneg_right (by omega) (by omega)
    omega
  · have h1 : p * d ≤ (p.natAbs : Int) * d := Int.mul_le_mul_of_nonneg_right (by omega) (by omega)
    have h2 : (p.natAbs : Int) * d ≤ 4611686018427387904 * d := Int.mul_le_mul_of_nonneg_right (by omega) (by omega)
    have : p * d / q < 4611686018427387904 + 1 := Int.ediv_lt_of_lt_mul hq (by omega)
    omega

set_option maxHeartbeats 400000 in
theorem is_same (a b e : Int) (w : World) : Calls Tryz.prog 25 #[.agg #[.int .i64 a, .int .i64 b], .int .i64 e, .agg #[.int .i64 a, .int .i64 b], .int .i64 e] w (RetV (.bool true) w) := by
  go_enter Tryz.func25, Tryz.ntmps25
  go_wp2
  go_ret
  exact ⟨by simp, ((Below.refl _ _).alloc (Nat.le_refl _) _).alloc (by simp) _⟩
theorem is_w (a b e : Int) {w : World} : ∀ W (_ : Below w.heap.size w W), Calls Tryz.prog 25 #[.agg #[.int .i64 a, .int .i64 b], .int .i64 e, .agg #[.int .i64 a, .int .i64 b], .int .i64 e] W (RetW (.bool true) W) := fun W _ => (is_same a b e W).mono fun _e _w' h => RetW.of h

set_option maxRecDepth 100000 in
set_option maxHeartbeats 1600000 in
theorem rround_any {w : World} {u : Value} {p q : Int} {N : Nat} (hu : IsRQ w u p q N) (hN : N ≤ 200) (hq : 0 < q) (hb1 : -4611686018427387904 ≤ p / q) (hb2 : p / q ≤ 4611686018427387904) :
    Calls Tryz.prog 71 #[u] w (RetV (.int .i64 (p / q)) w) := by
  obtain ⟨pa0, A0, n0, c0, pb0, B0, m0, d0, rfl, hp0, hq0⟩ := hu.open'
  have cd : ∀ W, Below w.heap.size w W → Calls Tryz.prog 98 #[.agg #[.bool pa0.1, .slice A0 n0 c0], .agg #[.bool pb0.1, .slice B0 m0 d0]] W (RetDM p q (N + 1) (N + 3) W) := fun W hb => rdivmod_any (hp0.below hb) (hq0.below hb) (by omega) (by omega) hq
  have hsv : smallV (p / q) = .tuple #[.int .i64 (p / q), .bool true] := by unfold smallV; rw [if_pos ⟨hb1, hb2⟩]
  have cs : ∀ W (_ : Below w.heap.size w W) v, IsR W v (p / q) (N + 1) → Calls Tryz.prog 53 #[v] W (RetW (.tuple #[.int .i64 (p / q), .bool true]) W) := fun W _ v h => by
    have := rsmall_any h (by omega)
    rw [hsv] at this
    exact this.mono fun e w' h => RetW.of h
  clear hu hp0 hq0 hb1 hb2 hsv
  obtain ⟨W3, hW3⟩ : ∃ W3, W3 = (w.alloc (.cells #[.bool pa0.1, .slice A0 n0 c0, .bool pb0.1, .slice B0 m0 d0] 40)) := ⟨_, rfl⟩
  have hB : Below w.heap.size w W3 := by rw [hW3]; exact ((Below.refl _ _).alloc (Nat.le_refl _) _)
  have HBW := Lib.hid hB
  have HF := Lib.hid (show Four W3 (w.heap.size) (.bool pa0.1) (.slice A0 n0 c0) (.bool pb0.1) (.slice B0 m0 d0) 40 by rw [hW3]; exact (Four.newAt _ _ _ _ _ _ _ (by simp)))
  clear hB
  go_enter Tryz.func71, Tryz.ntmps71
  go_upto_region 1 with fail
  rw [← hW3]
  clear hW3
  have k0 := HF.out.cell0
  have k1 := HF.out.cell1
  have k2 := HF.out.cell2
  have k3 := HF.out.cell3
  have cc := cd _ HBW.out
  go_wp2_with fail
  refine cc.mono ?_
  rintro e V1 ⟨v1, v2, rfl, h1, h2, hn1⟩
  clear cc cd k0 k1 k2 k3
  obtain ⟨p5, A5, n5, c5, rfl⟩ := h1.agg'
  obtain ⟨p6, A6, n6, c6, rfl⟩ := h2.agg'
  generalize p / q = z at *
  generalize p % q = zr at *
  obtain ⟨U, hU⟩ : ∃ U, U = (V1.alloc (.cells #[.bool p5.1, .slice A5 n5 c5] 38)).alloc (.cells #[.bool p6.1, .slice A6 n6 c6] 38) := ⟨_, rfl⟩
  have hbV : Below V1.heap.size V1 U := by rw [hU]; exact ((Below.refl _ _).alloc (Nat.le_refl _) _).alloc (by simp) _
  have T1 : Two U V1.heap.size (.bool p5.1) (.slice A5 n5 c5) 38 := by rw [hU]; exact (Two.newAt _ _ _ _ _ rfl).alloc _
  have hz := h1.below hbV
  have hw := HBW.out.trans ((hn1.trans (hbV.mono hn1.size)).mono HBW.out.size)
  have k0 := T1.cell0
  have k1 := T1.cell1
  have c2 := cs U hw _ hz
  have HW := Lib.hid hw
  clear hn1 hbV T1 h1 h2 hz hw cs
  go_upto_region 2 with fail
  rw [← hU]
  clear hU
  go_wp2_with fail
  refine c2.mono ?_
  rintro e V2 ⟨v2, rfl, hm2, hn2⟩
  subst hm2
  have HE := Lib.hid (HW.out.trans (hn2.mono HW.out.size))
  clear c2 hn2
  go_wp2
  go_ret
  exact ⟨rfl, HE.out⟩

end Go.Proofs.YtklngjjokbhfpaaGreat
