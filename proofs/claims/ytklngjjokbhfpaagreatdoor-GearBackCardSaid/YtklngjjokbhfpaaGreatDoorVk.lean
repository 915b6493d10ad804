/- gear's limits (printed by genvk.py). -/
import Derived.Test.YtklngjjokbhfpaaGreatDoorPkP
namespace Go.Proofs.YtklngjjokbhfpaaGreatDoor
open Go.RowKit

/-- Valid limits. -/
def LimOk (wl wh pl ph st : Int) : Prop := 1 ≤ wl ∧ wl ≤ wh ∧ wh ≤ 200 ∧ wh - wl < 64 ∧ 1 ≤ pl ∧ pl ≤ ph ∧ ph ≤ 200 ∧ ph - pl < 12 ∧ 1 ≤ st ∧ st ≤ 3
instance (wl wh pl ph st : Int) : Decidable (LimOk wl wh pl ph st) := by unfold LimOk; infer_instance

set_option maxRecDepth 100000 in
set_option maxHeartbeats 3200000 in
theorem limits_any (wl wh pl ph st : Int) (w : World) :
    Calls Tryz.prog 39 #[.agg #[.int .i64 wl, .int .i64 wh, .int .i64 pl, .int .i64 ph, .int .i64 st]] w (RetV (.bool (decide (LimOk wl wh pl ph st))) w) := by
  have hB : ∀ o, Below w.heap.size w (w.alloc o) := fun o => (Below.refl _ _).alloc (Nat.le_refl _) _
  have HB := Lib.hid hB
  clear hB
  by_cases e0 : 1 ≤ wl
  rotate_left
  · have hres : decide (LimOk wl wh pl ph st) = false := decide_eq_false fun h => by unfold LimOk at h; omega
    rw [hres]
    clear hres
    have d0 : decide (1 ≤ wl) = false := decide_eq_false e0
    clear e0
    go_enter Tryz.func39, Tryz.ntmps39
    go_wp2
    go_ret
    exact ⟨rfl, HB.out _⟩
  by_cases e1 : wl ≤ wh
  rotate_left
  · have hres : decide (LimOk wl wh pl ph st) = false := decide_eq_false fun h => by unfold LimOk at h; omega
    rw [hres]
    clear hres
    have d0 : decide (1 ≤ wl) = true := decide_eq_true e0
    have d1 : decide (wl ≤ wh) = false := decide_eq_false e1
    clear e0 e1
    go_enter Tryz.func39, Tryz.ntmps39
    go_wp2
    go_ret
    exact ⟨rfl, HB.out _⟩
  by_cases e2 : wh ≤ 200
  rotate_left
  · have hres : decide (LimOk wl wh pl ph st) = false := decide_eq_false fun h => by unfold LimOk at h; omega
    rw [hres]
    clear hres
    have d0 : decide (1 ≤ wl) = true := decide_eq_true e0
    have d1 : decide (wl ≤ wh) = true := decide_eq_true e1
    have d2 : decide (wh ≤ 200) = false := decide_eq_false e2
    clear e0 e1 e2
    go_enter Tryz.func39, Tryz.ntmps39
    go_wp2
    go_ret
    exact ⟨rfl, HB.out _⟩
  by_cases e3 : wh - wl < 64
  rotate_left
  · have hres : decide (LimOk wl wh pl ph st) = false := decide_eq_false fun h => by unfold LimOk at h; omega
    rw [hres]
    clear hres
    have d0 : decide (1 ≤ wl) = true := decide_eq_true e0
    have d1 : decide (wl ≤ wh) = true := decide_eq_true e1
    have d2 : decide (wh ≤ 200) = true := decide_eq_true e2
    have d3 : decide (wh - wl < 64) = false := decide_eq_false e3
    have u1 : IntKind.i64.wrap (wh - wl) = wh - wl := IntWalk.i64_in _ (by omega)
    clear e0 e1 e2 e3
    go_enter Tryz.func39, Tryz.ntmps39
    go_wp2
    go_ret
    exact ⟨rfl, HB.out _⟩
  by_cases e4 : 1 ≤ pl
  rotate_left
  · have hres : decide (LimOk wl wh pl ph st) = false := decide_eq_false fun h => by unfold LimOk at h; omega
    rw [hres]
    clear hres
    have d0 : decide (1 ≤ wl) = true := decide_eq_true e0
    have d1 : decide (wl ≤ wh) = true := decide_eq_true e1
    have d2 : decide (wh ≤ 200) = true := decide_eq_true e2
    have d3 : decide (wh - wl < 64) = true := decide_eq_true e3
    have d4 : decide (1 ≤ pl) = false := decide_eq_false e4
    have u1 : IntKind.i64.wrap (wh - wl) = wh - wl := IntWalk.i64_in _ (by omega)
    clear e0 e1 e2 e3 e4
    go_enter Tryz.func39, Tryz.ntmps39
    go_wp2
    go_ret
    exact ⟨rfl, HB.out _⟩
  by_cases e5 : pl ≤ ph
  rotate_left
  · have hres : decide (LimOk wl wh pl ph st) = false := decide_eq_false fun h => by unfold LimOk at h; omega
    rw [hres]
    clear hres
    have d0 : decide (1 ≤ wl) = true := decide_eq_true e0
    have d1 : decide (wl ≤ wh) = true := decide_eq_true e1
    have d2 : decide (wh ≤ 200) = true := decide_eq_true e2
    have d3 : decide (wh - wl < 64) = true := decide_eq_true e3
    have d4 : decide (1 ≤ pl) = true := decide_eq_true e4
    have d5 : decide (pl ≤ ph) = false := decide_eq_false e5
    have u1 : IntKind.i64.wrap (wh - wl) = wh - wl := IntWalk.i64_in _ (by omega)
    clear e0 e1 e2 e3 e4 e5
    go_enter Tryz.func39, Tryz.ntmps39
    go_wp2
    go_ret
    exact ⟨rfl, HB.out _⟩
  by_cases e6 : ph ≤ 200
  rotate_left
  · have hres : decide (LimOk wl wh pl ph st) = false := decide_eq_false fun h => by unfold LimOk at h; omega
    rw [hres]
    clear hres
    have d0 : decide (1 ≤ wl) = true := decide_eq_true e0
    have d1 : decide (wl ≤ wh) = true := decide_eq_true e1
    have d2 : decide (wh ≤ 200) = true := decide_eq_true e2
    have d3 : decide (wh - wl < 64) = true := decide_eq_true e3
    have d4 : decide (1 ≤ pl) = true := decide_eq_true e4
    have d5 : decide (pl ≤ ph) = true := decide_eq_true e5
    have d6 : decide (ph ≤ 200) = false := decide_eq_false e6
    have u1 : IntKind.i64.wrap (wh - wl) = wh - wl := IntWalk.i64_in _ (by omega)
    clear e0 e1 e2 e3 e4 e5 e6
    go_enter Tryz.func39, Tryz.ntmps39
    go_wp2
    go_ret
    exact ⟨rfl, HB.out _⟩
  by_cases e7 : ph - pl < 12
  rotate_left
  · have hres : decide (LimOk wl wh pl ph st) = false := decide_eq_false fun h => by unfold LimOk at h; omega
    rw [hres]
    clear hres
    have d0 : decide (1 ≤ wl) = true := decide_eq_true e0
    have d1 : decide (wl ≤ wh) = true := decide_eq_true e1
    have d2 : decide (wh ≤ 200) = true := decide_eq_true e2
    have d3 : decide (wh - wl < 64) = true := decide_eq_true e3
    have d4 : decide (1 ≤ pl) = true := decide_eq_true e4
    have d5 : decide (pl ≤ ph) = true := decide_eq_true e5
    have d6 : decide (ph ≤ 200) = true := decide_eq_true e6
    have d7 : decide (ph - pl < 12) = false := decide_eq_false e7
    have u1 : IntKind.i64.wrap (wh - wl) = wh - wl := IntWalk.i64_in _ (by omega)
    have u2 : IntKind.i64.wrap (ph - pl) = ph - pl := IntWalk.i64_in _ (by omega)
    clear e0 e1 e2 e3 e4 e5 e6 e7
    go_enter Tryz.func39, Tryz.ntmps39
    go_wp2
    go_ret
    exact ⟨rfl, HB.out _⟩
  by_cases e8 : 1 ≤ st
  rotate_left
  · have hres : decide (LimOk wl wh pl ph st) = false := decide_eq_false fun h => by unfold LimOk at h; omega
    rw [hres]
    clear hres
    have d0 : decide (1 ≤ wl) = true := decide_eq_true e0
    have d1 : decide (wl ≤ wh) = true := decide_eq_true e1
    have d2 : decide (wh ≤ 200) = true := decide_eq_true e2
    have d3 : decide (wh - wl < 64) = true := decide_eq_true e3
    have d4 : decide (1 ≤ pl) = true := decide_eq_true e4
    have d5 : decide (pl ≤ ph) = true := decide_eq_true e5
    have d6 : decide (ph ≤ 200) = true := decide_eq_true e6
    have d7 : decide (ph - pl < 12) = true := decide_eq_true e7
    have d8 : decide (1 ≤ st) = false := decide_eq_false e8
    have u1 : IntKind.i64.wrap (wh - wl) = wh - wl := IntWalk.i64_in _ (by omega)
    have u2 : IntKind.i64.wrap (ph - pl) = ph - pl := IntWalk.i64_in _ (by omega)
    clear e0 e1 e2 e3 e4 e5 e6 e7 e8
    go_enter Tryz.func39, Tryz.ntmps39
    go_wp2
    go_ret
    exact ⟨rfl, HB.out _⟩
  by_cases e9 : st ≤ 3
  rotate_left
  · have hres : decide (LimOk wl wh pl ph st) = false := decide_eq_false fun h => by unfold LimOk at h; omega
    rw [hres]
    clear hres
    have d0 : decide (1 ≤ wl) = true := decide_eq_true e0
    have d1 : decide (wl ≤ wh) = true := decide_eq_true e1
    have d2 : decide (wh ≤ 200) = true := decide_eq_true e2
    have d3 : decide (wh - wl < 64) = true := decide_eq_true e3
    have d4 : decide (1 ≤ pl) = true := decide_eq_true e4
    have d5 : decide (pl ≤ ph) = true := decide_eq_true e5
    have d6 : decide (ph ≤ 200) = true := decide_eq_true e6
    have d7 : decide (ph - pl < 12) = true := decide_eq_true e7
    have d8 : decide (1 ≤ st) = true := decide_eq_true e8
    have d9 : decide (st ≤ 3) = false := decide_eq_false e9
    have u1 : IntKind.i64.wrap (wh - wl) = wh - wl := IntWalk.i64_in _ (by omega)
    have u2 : IntKind.i64.wrap (ph - pl) = ph - pl := IntWalk.i64_in _ (by omega)
    clear e0 e1 e2 e3 e4 e5 e6 e7 e8 e9
    go_enter Tryz.func39, Tryz.ntmps39
    go_wp2
    go_ret
    exact ⟨rfl, HB.out _⟩
  have hres : decide (LimOk wl wh pl ph st) = true := decide_eq_true ⟨e0, e1, e2, e3, e4, e5, e6, e7, e8, e9⟩
  rw [hres]
  clear hres
  have d0 : decide (1 ≤ wl) = true := decide_eq_true e0
  have d1 : decide (wl ≤ wh) = true := decide_eq_true e1
  have d2 : decide (wh ≤ 200) = true := decide_eq_true e2
  have d3 : decide (wh - wl < 64) = true := decide_eq_true e3
  have d4 : decide (1 ≤ pl) = true := decide_eq_true e4
  have d5 : decide (pl ≤ ph) = true := decide_eq_true e5
  have d6 : decide (ph ≤ 200) = true := decide_eq_true e6
  have d7 : decide (ph - pl < 12) = true := decide_eq_true e7
  have d8 : decide (1 ≤ st) = true := decide_eq_true e8
  have d9 : decide (st ≤ 3) = true := decide_eq_true e9
  have u1 : IntKind.i64.wrap (wh - wl) = wh - wl := IntWalk.i64_in _ (by omega)
  have u2 : IntKind.i64.wrap (ph - pl) = ph - pl := IntWalk.i64_in _ (by omega)
  clear e0 e1 e2 e3 e4 e5 e6 e7 e8 e9
  go_enter Tryz.func39, Tryz.ntmps39
  go_wp2
  go_ret
  exact ⟨rfl, HB.out _⟩

end Go.Proofs.YtklngjjokbhfpaaGreatDoor
