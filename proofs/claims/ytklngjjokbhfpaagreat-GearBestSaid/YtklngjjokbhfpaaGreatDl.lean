/- ref's Train of a train that is one (printed by gendl.py). -/
import Derived.Test.YtklngjjokbhfpaaGreatCj
import Derived.Test.YtklngjjokbhfpaaGreatVo
namespace Go.Proofs.YtklngjjokbhfpaaGreat
open Go.RowKit

set_option maxRecDepth 100000 in
set_option maxHeartbeats 1600000 in
theorem rtrain_ok (A : Option Addr) (n c : Nat) (B : Option Addr) (d : Nat) (xs ys : List Int) (w : World) (hA : Ints .i64 w A xs) (hB : Ints .i64 w B ys) (hxl : xs.length = n) (hyl : ys.length = n) (h1 : 1 ≤ n) (h6 : n ≤ 6) (hx : ∀ x ∈ xs, 1 ≤ x ∧ x ≤ 200) (hy : ∀ y ∈ ys, 1 ≤ y ∧ y ≤ 200) :
    Calls Tryz.prog 45 #[.agg #[.slice A n c, .slice B n d], .int .i64 6] w (RetV (.bool true) w) := by
  have HX := Lib.hid hx
  have HY := Lib.hid hy
  have HXL := Lib.hid hxl
  have HYL := Lib.hid hyl
  clear hx hy hxl hyl
  have d1 : decide (n < 1) = false := decide_eq_false (by omega)
  have d2 : decide ((n : Int) < 1) = false := decide_eq_false (by omega)
  have d3 : decide (6 < n) = false := decide_eq_false (by omega)
  have d4 : decide ((6 : Int) < (n : Int)) = false := decide_eq_false (by omega)
  have e1 : ((n : Int) != (n : Int)) = false := by simp
  obtain ⟨W3, hW3⟩ : ∃ W3, W3 = (w.alloc (.cells #[.slice A n c, .slice B n d] 24)) := ⟨_, rfl⟩
  have hB : Below w.heap.size w W3 := by rw [hW3]; exact ((Below.refl _ _).alloc (Nat.le_refl _) _)
  have HBW := Lib.hid hB
  have HF := Lib.hid (show Two W3 (w.heap.size) (.slice A n c) (.slice B n d) 24 by rw [hW3]; exact (Two.newAt _ _ _ _ _ (by simp)))
  clear hB
  go_enter Tryz.func45, Tryz.ntmps45
  go_upto_region 1 with fail
  rw [← hW3]
  clear hW3
  have k0 := HF.out.cell0
  have k1 := HF.out.cell1
  have hA3 := hA.below HBW.out
  have hB3 := hB.below HBW.out
  go_wp2
  go_loopw [5] (fun i wr => ∃ k : Nat, k ≤ n ∧ i = .int .i64 k ∧ W3 = wr) (fun i _ => n - (intOf i).toNat)
  case atStart => exact ⟨0, by omega, rfl, rfl⟩
  case round =>
    obtain ⟨k, hk, rfl, rfl⟩ := hrel
    by_cases hlt : k < n
    · obtain ⟨b1, o1, rfl, hl1, hc1⟩ := hA3.get (k := k) (by rw [HXL.out]; exact hlt)
      obtain ⟨b2, o2, rfl, hl2, hc2⟩ := hB3.get (k := k) (by rw [HYL.out]; exact hlt)
      have hx := HX.out _ (List.getElem_mem (show k < xs.length by rw [HXL.out]; exact hlt))
      have hy := HY.out _ (List.getElem_mem (show k < ys.length by rw [HYL.out]; exact hlt))
      generalize xs[k]'(by rw [HXL.out]; exact hlt) = x at *
      generalize ys[k]'(by rw [HYL.out]; exact hlt) = y at *
      have f1 : decide (x < 1) = false := decide_eq_false (by omega)
      have f2 : decide (200 < x) = false := decide_eq_false (by omega)
      have f3 : decide (y < 1) = false := decide_eq_false (by omega)
      have f4 : decide (200 < y) = false := decide_eq_false (by omega)
      go_wp2
      go_roundw
      case rel => exact ⟨k + 1, by omega, by go_num, by trivial⟩
      case measure => simp [intOf]; omega
    · obtain rfl : k = n := by omega
      go_wp2
      go_ret
      exact ⟨rfl, HBW.out⟩

end Go.Proofs.YtklngjjokbhfpaaGreat
