/- Texts Z Zf in one. -/
import Derived.Test.YtklngjjokbhfpaaGreatDoorA
import Derived.Test.YtklngjjokbhfpaaGreatDoorW
import Derived.ProofKit
import Derived.OpenShut
import Derived.Lib.SmallJoins
namespace Go.Proofs.YtklngjjokbhfpaaGreatDoor
open Go.ChangeShapes Go.WideShapes Go.ChangeAt Go.RowKit

theorem own_knob : ownKnob Tryz.prog.godebug = none := by kernel_rfl
theorem under_int : Tryz.prog.underlying 3 = some (.int .i64) := by kernel_rfl
theorem under_bool : Tryz.prog.underlying 4 = some .bool := by kernel_rfl
theorem I64_of_wf {x : Int} (h : (Lit.int .i64 x).wf = true) : I64 x := by
  simp [Lit.wf, IntKind.min, IntKind.max, IntKind.signed, IntKind.bits] at h
  exact ⟨by omega, by omega⟩
end Go.Proofs.YtklngjjokbhfpaaGreatDoor

namespace Go.Proofs.YtklngjjokbhfpaaGreatDoor
open Go.ChangeShapes Go.WideShapes Go.ChangeAt Go.RowKit Go.Joins

set_option maxRecDepth 100000 in
theorem openedFrac {H : Type} {enc : TypeId × Value → H} {W : World} {r : Reach} {b0 : Nat} {v : Value} {d : DataW H} {p : List MemPlace}
    (hv : Value.okWide Tryz.prog W r b0 23 v) (h : DataW.Trod enc Tryz.prog W 0 (fun _ => true) true 23 v d p) :
    ∃ a b : Int, v = .agg #[.int .i64 a, .int .i64 b] ∧ p = [] ∧ I64 a ∧ I64 b ∧ ∀ (W' : World) (sp : Nat → Bool), DataW.Trod enc Tryz.prog W' 0 sp true 23 (.agg #[.int .i64 a, .int .i64 b]) d [] := by
  obtain ⟨u0, u1, y0, y1, nn, rfl, rfl, rfl, g0, g1⟩ := open_agg2 Tryz.underlying23 (by kernel_rfl) (by kernel_rfl) hv h
  obtain ⟨a, e0, rfl, w0⟩ := DataW.trod_int under_int g0
  obtain ⟨b, e1, rfl, w1⟩ := DataW.trod_int under_int g1
  cases e0; cases e1
  exact ⟨a, b, rfl, rfl, I64_of_wf w0, I64_of_wf w1, fun W' sp => shut_agg2 (y0 := (.lit (.int .i64 a), [])) (y1 := (.lit (.int .i64 b), [])) Tryz.underlying23 (by kernel_rfl) (by kernel_rfl) ⟨1, trod_int_mk 0 under_int w0⟩ ⟨1, trod_int_mk 0 under_int w1⟩⟩
end Go.Proofs.YtklngjjokbhfpaaGreatDoor
