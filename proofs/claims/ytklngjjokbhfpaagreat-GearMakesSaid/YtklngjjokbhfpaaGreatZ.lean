/- Words for the rows. -/
import Derived.Test.YtklngjjokbhfpaaGreatA
import Derived.Test.YtklngjjokbhfpaaGreatW
import Derived.ProofKit
namespace Go.Proofs.YtklngjjokbhfpaaGreat
open Go.ChangeShapes Go.WideShapes Go.ChangeAt Go.RowKit

theorem own_knob : ownKnob Tryz.prog.godebug = none := by kernel_rfl
theorem laid_out : laidOutB Tryz.prog = true := by kernel_rfl
theorem under_int : Tryz.prog.underlying 3 = some (.int .i64) := by kernel_rfl
theorem under_bool : Tryz.prog.underlying 4 = some .bool := by kernel_rfl
theorem I64_of_wf {x : Int} (h : (Lit.int .i64 x).wf = true) : I64 x := by
  simp [Lit.wf, IntKind.min, IntKind.max, IntKind.signed, IntKind.bits] at h
  exact ⟨by omega, by omega⟩
end Go.Proofs.YtklngjjokbhfpaaGreat
