/- Texts Fa Fc Fd Fe Ff Fg Fh Fi Fb Fj in one. -/
import Derived.Test.YtobpacebpiabcaaGreatDoorPkAd
import Derived.Test.YtobpacebpiabcaaGreatDoorPkBo
import Derived.Laws.IdiomStrings
import Derived.Test.YtobpacebpiabcaaGreatDoorPkCe
import Derived.Test.YtobpacebpiabcaaGreatDoorPkBc
import Derived.Test.YtobpacebpiabcaaGreatDoorBu
import Derived.Test.YtobpacebpiabcaaGreatDoorPkBl
import Derived.Test.YtobpacebpiabcaaGreatDoorPkDg
namespace Go.Proofs.YtobpacebpiabcaaGreatDoor
open Go.RowKit Go.Lib

end Go.Proofs.YtobpacebpiabcaaGreatDoor

namespace Go.Proofs.YtobpacebpiabcaaGreatDoor
open Go.RowKit Go.Lib

def w3 (j : Nat) : List UInt8 := [sp ++ wAnd ++ sp, sp ++ wOr ++ sp, sp ++ wSince ++ sp].getD j []
def k3 (j : Nat) : Int := ([4, 5, 9] : List Int).getD j 0
def w4 (j : Nat) : List UInt8 := [wNot ++ sp, wPrev ++ sp, wOnce ++ sp, wAlways ++ sp].getD j []
def k4 (j : Nat) : Int := ([3, 6, 7, 8] : List Int).getD j 0
section
variable {m : Nat} {s : List UInt8}
end
/-! What is left is not longer. -/
end Go.Proofs.YtobpacebpiabcaaGreatDoor

namespace Go.Proofs.YtobpacebpiabcaaGreatDoor
open Go.RowKit Go.Lib
end Go.Proofs.YtobpacebpiabcaaGreatDoor

namespace Go.Proofs.YtobpacebpiabcaaGreatDoor
open Go.RowKit Go.Lib
end Go.Proofs.YtobpacebpiabcaaGreatDoor

namespace Go.Proofs.YtobpacebpiabcaaGreatDoor
open Go.RowKit Go.Lib
end Go.Proofs.YtobpacebpiabcaaGreatDoor

namespace Go.Proofs.YtobpacebpiabcaaGreatDoor
open Go.RowKit Go.Lib
end Go.Proofs.YtobpacebpiabcaaGreatDoor

namespace Go.Proofs.YtobpacebpiabcaaGreatDoor
open Go.RowKit Go.Lib
end Go.Proofs.YtobpacebpiabcaaGreatDoor

namespace Go.Proofs.YtobpacebpiabcaaGreatDoor
open Go.RowKit Go.Lib

end Go.Proofs.YtobpacebpiabcaaGreatDoor

namespace Go.Proofs.YtobpacebpiabcaaGreatDoor
open Go.RowKit Go.Lib

end Go.Proofs.YtobpacebpiabcaaGreatDoor

namespace Go.Proofs.YtobpacebpiabcaaGreatDoor
open Go.RowKit Go.Lib

set_option maxHeartbeats 6400000 in
/-- terms.Text of a valid term. -/
theorem termstext_any {S : Nat → Prop} {w : World} {v : Value} {t : Tm} {B0 : Nat} (h : TmV S w v t) (ho : t.ok = true) (hL : LibOk B0 w) : Calls Tryz.prog 13 #[v] w (RetW (.tuple #[.string ⟨t.tx.toArray⟩, .int .i64 0]) w) := by
  obtain ⟨ku, rfl, hku⟩ := h
  obtain ⟨A, m, c, rfl, -⟩ := hku.open'
  have hsh : t.fo.shp = true := by have h := Tm.ok_shp ho; rw [fo_shp, h.1, h.2.1]; rfl
  have hf : t.fo.fit := Fo.shp_fit _ hsh
  have hcn : t.fo.cnt ≤ 5000 := by have h := (Tm.ok_shp ho).2.2; rw [fo_cnt]; omega
  obtain ⟨W3, hW3⟩ : ∃ W3, W3 = w.alloc (.cells #[.int .i64 t.1, .string ⟨t.2.1.toArray⟩, .int .i64 t.2.2.1, .slice A m c] 26) := ⟨_, rfl⟩
  have hB : Below w.heap.size w W3 := by rw [hW3]; exact (Below.refl _ _).alloc (Nat.le_refl _) _
  have HB := Lib.hid hB
  have HX := Lib.hid (show Blk W3 w.heap.size #[.int .i64 t.1, .string ⟨t.2.1.toArray⟩, .int .i64 t.2.2.1, .slice A m c] 26 by rw [hW3]; exact Blk.new _ _ _)
  have cv := valid_one (_w := w) (hku.below hB) hf 26
  rw [ho] at cv
  have HTX := Lib.hid (show ∀ W, Below w.heap.size w W → Calls Tryz.prog 50 #[.agg #[.int .i64 t.1, .string ⟨t.2.1.toArray⟩, .int .i64 t.2.2.1, .slice A m c]] W (RetW (.string ⟨t.tx.toArray⟩) W) from fun W hb => text_any _ t S _ W B0 (Nat.lt_succ_self _) ⟨_, rfl, hku.below hb⟩ hsh hcn (hL.below hb))
  have HPO := Lib.hid (show ∀ w', Below w.heap.size w w' → RetW (.tuple #[.string ⟨t.tx.toArray⟩, .int .i64 0]) w (.returned (.tuple #[.string ⟨t.tx.toArray⟩, .int .i64 0])) w' from fun w' h => ⟨rfl, h⟩)
  generalize hPost : RetW (.tuple #[.string ⟨t.tx.toArray⟩, .int .i64 0]) w = Post at *
  generalize t.tx = tx at *
  clear hPost hku hf hB ho hsh hcn hL
  generalize t.1 = kk at *
  generalize t.2.1 = knm at *
  generalize t.2.2.1 = kn at *
  have k0 := HX.out.cell 0
  have k1 := HX.out.cell 1
  have k2 := HX.out.cell 2
  have k3 := HX.out.cell 3
  have HW4 := Lib.hid (show Below w.heap.size w (W3.alloc (.cells #[.int .i64 kk, .string ⟨knm.toArray⟩, .int .i64 kn, .slice A m c] 26)) from HB.out.alloc HB.out.size _)
  have HR4 := Lib.hid (show Below W3.heap.size W3 (W3.alloc (.cells #[.int .i64 kk, .string ⟨knm.toArray⟩, .int .i64 kn, .slice A m c] 26)) from (Below.refl _ _).alloc (Nat.le_refl _) _)
  go_enter Tryz.func13, Tryz.ntmps13
  go_upto_region 1 with fail
  rw [← hW3]
  clear hW3
  go_wp2_with fail
  refine cv.mono ?_
  rintro e W5 ⟨rfl, hn5⟩
  have HW5 := Lib.hid (HW4.out.trans (hn5.mono HW4.out.size))
  have hx5 := HX.out.below (HR4.out.trans (hn5.mono HR4.out.size))
  have ct := HTX.out W5 HW5.out
  clear cv hn5 k0 k1 k2 k3
  have k0 := hx5.cell 0
  have k1 := hx5.cell 1
  have k2 := hx5.cell 2
  have k3 := hx5.cell 3
  clear hx5
  go_wp2_with fail
  refine ct.mono ?_
  rintro e W6 ⟨rfl, hn6⟩
  have HW6 := Lib.hid (HW5.out.trans (hn6.mono HW5.out.size))
  clear ct hn6
  go_wp2
  exact HPO.out _ HW6.out

/-! What the document's reader reads is not larger than the text. -/
end Go.Proofs.YtobpacebpiabcaaGreatDoor
