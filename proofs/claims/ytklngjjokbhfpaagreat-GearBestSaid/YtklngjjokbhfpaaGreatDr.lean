/- ref.Over, ref.Make for denominators above 0. -/
import Derived.Test.YtklngjjokbhfpaaGreatDj
namespace Go.Proofs.YtklngjjokbhfpaaGreat
open Go.RowKit

set_option maxRecDepth 100000 in
set_option maxHeartbeats 1600000 in
theorem rratio_any {w : World} {u v : Value} {p q : Int} {N : Nat} (hu : IsR w u p N) (hv : IsR w v q N) (hq : 0 < q) :
    Calls Tryz.prog 76 #[u, v] w (RetRQ p q N w) := by
  obtain ⟨p0, A0, n0, c0, rfl⟩ := hu.agg'
  obtain ⟨A1, n1, c1, rfl, -⟩ := hv.pos' (by omega)
  have HU := Lib.hid hu
  have HV := Lib.hid hv
  clear hu hv hq
  obtain ⟨W3, hW3⟩ : ∃ W3, W3 = (((w.alloc (.cells #[.bool p0.1, .slice A0 n0 c0] 38)).alloc (.cells #[.bool false, .slice A1 n1 c1] 38)).alloc (.cells #[.bool false, .slice none 0 0, .bool false, .slice none 0 0] 40)) := ⟨_, rfl⟩
  have hB : Below w.heap.size w W3 := by rw [hW3]; exact ((((Below.refl _ _).alloc (Nat.le_refl _) _).alloc (by simp; try omega) _).alloc (by simp; try omega) _)
  have HBW := Lib.hid hB
  have HF := Lib.hid (show Two W3 (w.heap.size) (.bool p0.1) (.slice A0 n0 c0) 38 by rw [hW3]; exact (((((Two.newAt _ _ _ _ _ (by simp))).alloc _)).alloc _))
  have HG := Lib.hid (show Two W3 (w.heap.size + 1) (.bool false) (.slice A1 n1 c1) 38 by rw [hW3]; exact (((Two.newAt _ _ _ _ _ (by simp))).alloc _))
  have HR := Lib.hid (show Four W3 (w.heap.size + 1 + 1) (.bool false) (.slice none 0 0) (.bool false) (.slice none 0 0) 40 by rw [hW3]; exact (Four.newAt _ _ _ _ _ _ _ (by simp)))
  clear hB
  go_enter Tryz.func76, Tryz.ntmps76
  go_upto_region 1 with fail
  rw [← hW3]
  clear hW3
  have k0 := HF.out.cell0
  have k1 := HF.out.cell1
  have k2 := HG.out.cell0
  have k3 := HG.out.cell1
  have r0 := HR.out.cell0
  have r1 := HR.out.cell1
  have r2 := HR.out.cell2
  have r3 := HR.out.cell3
  have g0 := HR.out.free 0
  have g1 := HR.out.free 1
  have g2 := HR.out.free 2
  have g3 := HR.out.free 3
  go_wp2
  refine bodyPost_ret (v := .agg #[.bool p0.1, .slice A0 n0 c0, .bool false, .slice A1 n1 c1]) (by simp [results, Tryz.results76, go_sem, r0, r1, r2, r3]) rfl ⟨_, rfl, ⟨p0.1, _, false, _, rfl, (HU.out.below HBW.out).storedQ HR.out, (HV.out.below HBW.out).storedQ HR.out⟩, ?_⟩
  exact (((HBW.out.setCell (by simp; try omega) _).setCell (by simp; try omega) _).setCell (by simp; try omega) _).setCell (by simp; try omega) _

set_option maxRecDepth 100000 in
set_option maxHeartbeats 1600000 in
theorem rmake_pos (p q : Int) (w : World) (hp : I64 p) (hq : I64 q) (hd : 0 < q) :
    Calls Tryz.prog 28 #[.int .i64 p, .int .i64 q] w (RetV (lowV p q) w) := by
  have c1 := fun W (_ : Below w.heap.size w W) => rint_any p W hp
  have c2 := fun W (_ : Below w.heap.size w W) => rint_any q W hq
  have c3 : ∀ W (_ : Below w.heap.size w W) u v, IsR W u p 5 → IsR W v q 5 → Calls Tryz.prog 76 #[u, v] W (RetRQ p q 5 W) := fun W _ u v g1 g2 => rratio_any g1 g2 hd
  obtain ⟨fn, fd, fe, hf⟩ := fracV_form (p / (Int.gcd p q : Nat)) (q / (Int.gcd p q : Nat))
  have hres : lowV p q = .tuple #[.agg #[.int .i64 fn, .int .i64 fd], .int .i64 fe] := hf
  have c4 : ∀ W (_ : Below w.heap.size w W) u, IsRQ W u p q 5 → Calls Tryz.prog 16 #[u] W (RetW (.tuple #[.agg #[.int .i64 fn, .int .i64 fd], .int .i64 fe]) W) := fun W _ u g => by
    have := rfrac_any g (by omega) hd
    rw [hres] at this
    exact this.mono fun e w' h => RetW.of h
  rw [hres]
  have e0 : (q == 0) = false := by simp; omega
  clear hp hq hf hres hd
  obtain ⟨W3, hW3⟩ : ∃ W3, W3 = (w.alloc (.cells #[.int .i64 0, .int .i64 0] 28)) := ⟨_, rfl⟩
  have hB : Below w.heap.size w W3 := by rw [hW3]; exact ((Below.refl _ _).alloc (Nat.le_refl _) _)
  have HBW := Lib.hid hB
  have HR := Lib.hid (show Two W3 (w.heap.size) (.int .i64 0) (.int .i64 0) 28 by rw [hW3]; exact (Two.newAt _ _ _ _ _ (by simp)))
  clear hB
  go_enter Tryz.func28, Tryz.ntmps28
  go_upto_region 1 with fail
  rw [← hW3]
  clear hW3
  have k0_0 := HR.out.cell0
  have k0_1 := HR.out.cell1
  have hb0 := Below.refl W3.heap.size W3
  have hw0 := HBW.out
  have cc := c1 W3 hw0
  go_wp2_with fail
  refine cc.mono ?_
  rintro e V1 ⟨v1, rfl, hm1, hn1⟩
  have hb1 := hb0.trans (hn1.mono hb0.size)
  have hw1 := hw0.trans (hn1.mono hw0.size)
  clear cc hb0 hw0 hn1
  clear k0_0 k0_1
  have k0_0 := (HR.out.below hb1 HR.out.lt).cell0
  have k0_1 := (HR.out.below hb1 HR.out.lt).cell1
  have cc := c2 V1 hw1
  go_wp2_with fail
  refine cc.mono ?_
  rintro e V2 ⟨v2, rfl, hm2, hn2⟩
  have hb2 := hb1.trans (hn2.mono hb1.size)
  have hw2 := hw1.trans (hn2.mono hw1.size)
  have hm1 := hm1.below hn2
  clear cc hb1 hw1 hn2
  clear k0_0 k0_1
  have k0_0 := (HR.out.below hb2 HR.out.lt).cell0
  have k0_1 := (HR.out.below hb2 HR.out.lt).cell1
  have cc := c3 V2 hw2 _ _ hm1 hm2
  go_wp2_with fail
  refine cc.mono ?_
  rintro e V3 ⟨v3, rfl, hm3, hn3⟩
  have hb3 := hb2.trans (hn3.mono hb2.size)
  have hw3 := hw2.trans (hn3.mono hw2.size)
  clear hm1 hm2
  clear cc hb2 hw2 hn3
  clear k0_0 k0_1
  have k0_0 := (HR.out.below hb3 HR.out.lt).cell0
  have k0_1 := (HR.out.below hb3 HR.out.lt).cell1
  have cc := c4 V3 hw3 _ hm3
  go_wp2_with fail
  refine cc.mono ?_
  rintro e V4 ⟨v4, rfl, hm4, hn4⟩
  have hb4 := hb3.trans (hn4.mono hb3.size)
  have hw4 := hw3.trans (hn4.mono hw3.size)
  clear hm3
  subst hm4
  clear cc hb3 hw3 hn4
  clear k0_0 k0_1
  have k0_0 := (HR.out.below hb4 HR.out.lt).cell0
  have k0_1 := (HR.out.below hb4 HR.out.lt).cell1
  have HE := Lib.hid hw4
  have g0 := (HR.out.below hb4 HR.out.lt).free 0
  have g1 := (HR.out.below hb4 HR.out.lt).free 1
  clear hb4 hw4
  go_wp2
  refine bodyPost_ret (v := .tuple #[.agg #[.int .i64 fn, .int .i64 fd], .int .i64 fe]) (by simp [results, Tryz.results28, go_sem, k0_0, k0_1]) rfl ⟨rfl, ?_⟩
  exact (HE.out.setCell (by dsimp only; omega) _).setCell (by dsimp only; omega) _

end Go.Proofs.YtklngjjokbhfpaaGreat
