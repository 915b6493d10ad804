/- The law GearClose returns true for all arguments, and they read behind the call as before; no condition. -/
import Derived.Test.YtklngjjokbhfpaaGreatPkKe
import Derived.Test.YtklngjjokbhfpaaGreatPkZ
import Derived.ProofKit
import Derived.OpenShut
import Derived.Lib.SmallJoins
import Derived.Test.YtklngjjokbhfpaaGreatPkZ
import Derived.Test.YtklngjjokbhfpaaGreatZl
namespace Go.Proofs.YtklngjjokbhfpaaGreat
open Go.ChangeShapes Go.WideShapes Go.ChangeAt Go.RowKit Go.Joins
set_option maxRecDepth 100000
set_option maxHeartbeats 800000
theorem gearClose_lifted (os : Os) (started : os.Started) (H : Type) (enc : TypeId × Value → H) :
  ReturnsInHanded {} Tryz.checked os 10 .any (Rows.gearCloseSpec.pre6 enc Tryz.prog Tryz.f10 Rows.gearCloseRow.domain false) (Rows.gearCloseSpec.post enc Tryz.prog Tryz.f10 false true false false) := by
 refine returnsInHanded_of_change (C := Tryz.checked) own_knob started (by kernel_rfl) Tryz.func10
  (ChangeSpec.witness6 (enc := enc) (C := Tryz.checked) false ⟨#[], #[.agg #[.slice none 0 0, .slice none 0 0], .agg #[.int .i64 0, .int .i64 0, .int .i64 0, .int .i64 0, .int .i64 0], .agg #[.int .i64 0, .int .i64 0]], []⟩ 8 (by kernel_rfl) (by kernel_rfl) (by kernel_rfl) (by kernel_rfl)) ?_
 intro W base args ds gs before hval0 hW _ _
 have hval : ∀ (j : Nat) t v, Tryz.f10.params[j]? = some t → args[j]? = some v → Value.okWide Tryz.prog W .any base t v := hval0
 have hW' := hW
 obtain ⟨p, q, hA0, hV, rfl, _, _⟩ := hW
 have hA : DataW.TrodAll enc Tryz.prog W 0 (fun _ => true) true Tryz.f10.params.toList args.toList ds p := hA0
 rw [Tryz.params10] at hA hval
 obtain ⟨v0, v1, v2, d0, d1, d2, p0, p1, p2, rfl, rfl, rfl, h0, h1, h2⟩ := trodAll_three hA
 obtain ⟨rfl, rfl⟩ := trodVars_none hV
 obtain ⟨a2, b2, rfl, rfl, ia2, ib2, hp2⟩ := openedFrac (hval 2 28 v2 rfl rfl) h2
 obtain ⟨g1_0, g1_1, g1_2, g1_3, g1_4, rfl, rfl, ig1_0, ig1_1, ig1_2, ig1_3, ig1_4, hp1⟩ := openedTeeth (hval 1 26 v1 rfl rfl) h1
 obtain ⟨A0, n0, c0, B0, m0, e0, xs0, ys0, rfl, k0, l0⟩ := openedTrain (hval 0 24 v0 rfl rfl) h0
 clear hA0 hval0
 simp only [List.append_nil] at hW'
 have hlt0 : ∀ x ∈ p0, x.block < W.heap.size := fun x hx => hW'.lt x (by simp [hx])
 refine (close_row A0 n0 c0 B0 m0 e0 xs0 ys0 g1_0 g1_1 g1_2 g1_3 g1_4 a2 b2 W k0 l0).mono fun e W' ⟨he, hb⟩ => ?_
 subst he
 have harg0 : DataW.Trod enc Tryz.prog W' 0 (fun b => decide (b < W.heap.size)) true 24 _ d0 p0 :=
  Below.trod laid_out (by kernel_rfl) (of_decide_eq_true (by kernel_rfl)) h0 hb hlt0
 exact ⟨_, rfl, _, _, _, [], _, [], hW', trodAll_mk1 (shut_bool under_bool _), trodAll_mk3 harg0 (hp1 W' _) (hp2 W' _), rfl, hb.frame _, fun h => by cases h⟩
theorem gearClose_holds : Rows.GearCloseSaid :=
 OpenClaim.holds_of_wide 10 Tryz.f10 rfl rfl rfl rfl rfl rfl rfl ⟨rfl, rfl, rfl, rfl, rfl⟩ rfl rfl rfl rfl rfl (by kernel_rfl) Tryz.func10 (by kernel_rfl)
  (of_decide_eq_true (by kernel_rfl)) (by unfold Func.isWrapper; first | (rw [if_pos (by decide +kernel)]; kernel_rfl) | (rw [if_neg (by decide +kernel)]; exact ⟨rfl, rfl⟩))
  (fun os started H enc _ => gearClose_lifted os started H enc)
#print axioms gearClose_holds
end Go.Proofs.YtklngjjokbhfpaaGreat
