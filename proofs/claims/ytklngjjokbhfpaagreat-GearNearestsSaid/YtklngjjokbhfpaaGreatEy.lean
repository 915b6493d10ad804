/- Nearest where it answers; small contracts (printed by geneg.py). -/
import Derived.Test.YtklngjjokbhfpaaGreatEf
import Derived.Test.YtklngjjokbhfpaaGreatCj
import Derived.Test.YtklngjjokbhfpaaGreatVo
namespace Go.Proofs.YtklngjjokbhfpaaGreat
open Go.RowKit

theorem lives_y {w : World} : ∀ W (_ : Below w.heap.size w W), Calls Tryz.prog 14 #[] W (RetW (.bool true) W) := fun W _ => (lives_any W).mono fun _e _w' h => RetW.of h
theorem valid_y (p q : Int) (b : Bool) (h : decide (FOk (p, q)) = b) {w : World} : ∀ W (_ : Below w.heap.size w W), Calls Tryz.prog 18 #[.agg #[.int .i64 p, .int .i64 q]] W (RetW (.bool b) W) := fun W _ => by
  subst h
  exact (rvalid_any p q W).mono fun e w' h => RetW.of h
/-- Nearest, where it answers. -/
theorem nearest_ok (p q most : Int) (w : World) (h : FOk (p, q)) (hm : 1 ≤ most) (hm2 : most ≤ 4611686018427387904) :
    Calls Tryz.prog 24 #[.agg #[.int .i64 p, .int .i64 q], .int .i64 most] w (RetNear p q most w) := by
  by_cases hq : q ≤ most
  · exact (nearest_own p q most w h ⟨hm, hm2⟩ hq).mono fun e w' h2 => ⟨p, q, h2.1, Near.own h.1 hq h.2.2.2, h.2.2.1, h2.2⟩
  · exact nearest_main p q most w h hm (by omega)
theorem Near.fok {p q most n d : Int} (h : Near p q most n d) (hm : most ≤ 4611686018427387904) (hn : n.natAbs ≤ 4611686018427387904) : FOk (n, d) := ⟨h.d1, by have := h.dm; show d ≤ _; omega, hn, h.low⟩
/-- The comparison of two distances. -/
theorem near_cmp {A d Y k q : Int} (hq : 0 < q) : sgn (A * (k * q) - Y * (d * q)) = sgn (A * k - Y * d) := by
  rw [show A * (k * q) - Y * (d * q) = (A * k - Y * d) * q by grind]
  exact sgn_mul_pos _ hq

end Go.Proofs.YtklngjjokbhfpaaGreat
