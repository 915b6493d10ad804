/- The law GearExacts returns true for all arguments, and they read behind the call as before; no condition. -/
import Derived.Test.YtklngjjokbhfpaaGreatPkPb
import Derived.Test.YtklngjjokbhfpaaGreatPkZ
import Derived.ProofKit
import Derived.OpenShut
import Derived.Lib.SmallJoins
import Derived.Test.YtklngjjokbhfpaaGreatZl
namespace Go.Proofs.YtklngjjokbhfpaaGreat
open Go.ChangeShapes Go.WideShapes Go.ChangeAt Go.RowKit Go.Joins
set_option maxRecDepth 100000
set_option maxHeartbeats 800000
theorem gearExacts_lifted (os:Os)(started:os.Started)(H:Type)(enc:TypeId × Value→H) :
  ReturnsInHanded {} Tryz.checked os 9 .any (Rows.gearExactsSpec.pre6 enc Tryz.prog Tryz.f9 Rows.gearExactsRow.domain false) (Rows.gearExactsSpec.post enc Tryz.prog Tryz.f9 false true false false):=by
 refine returnsInHanded_of_change (C:=Tryz.checked) own_knob started (by kernel_rfl) Tryz.func9
  (ChangeSpec.witness6 (enc:=enc) (C:=Tryz.checked) false ⟨#[],#[.agg #[.int .i64 0,.int .i64 0],.agg #[.int .i64 0,.int .i64 0,.int .i64 0,.int .i64 0,.int .i64 0]],[]⟩ 8 (by kernel_rfl) (by kernel_rfl) (by kernel_rfl) (by kernel_rfl)) ?_
 intro W base args ds gs before hval0 hW _ _
 have hval:∀(j:Nat) t v,Tryz.f9.params[j]?=some t→args[j]?=some v→Value.okWide Tryz.prog W .any base t v:=hval0
 have hW':=hW
 obtain⟨p,q,hA0,hV,rfl,_,_⟩:=hW
 have hA:DataW.TrodAll enc Tryz.prog W 0 (fun _=>true) true Tryz.f9.params.toList args.toList ds p:=hA0
 rw[Tryz.params9] at hA hval
 obtain⟨v0,v1,d0,d1,p0,p1,rfl,rfl,rfl,h0,h1⟩:=trodAll_two hA
 obtain⟨rfl,rfl⟩:=trodVars_none hV
 obtain⟨a0,b0,rfl,rfl,ia0,ib0,hp0⟩:=openedFrac (hval 0 28 v0 rfl rfl) h0
 obtain⟨g1_0,g1_1,g1_2,g1_3,g1_4,rfl,rfl,ig1_0,ig1_1,ig1_2,ig1_3,ig1_4,hp1⟩:=openedTeeth (hval 1 26 v1 rfl rfl) h1
 clear hA0 hval0
 simp only[List.append_nil] at hW'
 refine (exacts_row a0 b0 g1_0 g1_1 g1_2 g1_3 g1_4 W ia0 ib0).mono fun e W' ⟨he,hb⟩ => ?_
 subst he
 exact⟨_,rfl,_,_,_,[],_,[],hW',trodAll_mk1 (shut_bool under_bool _),trodAll_mk2 (hp0 W' _) (hp1 W' _),rfl,hb.frame _,fun h=>by cases h⟩
theorem gearExacts_holds:Rows.GearExactsSaid:=
 OpenClaim.holds_of_wide 9 Tryz.f9 rfl rfl rfl rfl rfl rfl rfl ⟨rfl,rfl,rfl,rfl,rfl⟩ rfl rfl rfl rfl rfl (by kernel_rfl) Tryz.func9 (by kernel_rfl)
  (of_decide_eq_true (by kernel_rfl)) (by unfold Func.isWrapper;first | (rw[if_pos (by decide +kernel)];kernel_rfl) | (rw[if_neg (by decide +kernel)];exact⟨rfl,rfl⟩))
  (fun os started H enc _=>gearExacts_lifted os started H enc)
#print axioms gearExacts_holds
end Go.Proofs.YtklngjjokbhfpaaGreat
