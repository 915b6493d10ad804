/- The tied card of the law TermsAgrees: it returns true for all arguments, and they read behind the call as before. Conditions: the library's tables and errors (package-level variables) hold what the program's text lays (tied). -/
import Derived.Test.YtobpacebpiabcaaGreatDoorPkDa
import Derived.Test.YtobpacebpiabcaaGreatDoorPkDa
import Derived.Test.YtobpacebpiabcaaGreatDoorPkJf
import Derived.Test.YtobpacebpiabcaaGreatDoorTie
import Derived.Test.YtobpacebpiabcaaGreatDoorCards
import Derived.SevenTiedAt
import Derived.ChangeMaps5
import Derived.Lib.SmallJoins
namespace Go.Proofs.YtobpacebpiabcaaGreatDoor
open Go.ChangeShapes Go.WideShapes Go.ChangeAt Go.RowKit
set_option maxRecDepth 100000 in
theorem termsAgrees_lifted (os:Os)(started:os.Started)(H:Type)(enc:TypeId × Value→H) :
  ReturnsInHanded {} Tryz.checked os 6 .any (fun w args=>(Rows.termsAgreesSpec.pre enc Tryz.prog Tryz.f6 Rows.termsAgreesRow.domain false w args∧laidMetH Tryz.prog Rows.termsAgreesRow.laid w)∧sizedMet enc Tryz.prog Tryz.f6 (OpenSpec.ofChange Rows.termsAgreesSpec) false w args)
   (Rows.termsAgreesSpec.post enc Tryz.prog Tryz.f6 false true false false):=by
 refine inHanded_and_shaped (C:=Tryz.checked) (X:=fun w _=>laidMetH Tryz.prog Rows.termsAgreesRow.laid w) (fun _ _ _ hh h=>h.of_heap hh) own_knob started (by kernel_rfl) Tryz.func6
  (ChangeSpec.witness_shaped (enc:=enc) (C:=Tryz.checked) (os:=os) (X:=fun w _=>laidMetH Tryz.prog Rows.termsAgreesRow.laid w) false (World.laidAll Tryz.prog os Rows.termsAgreesRow.laid) #[.slice none 0 0,.slice none 0 0,.slice none 0 0] 8 (World.laidAll_os _ _ _) (World.shaped_of_ZipB (by kernel_rfl) (by kernel_rfl)) (by kernel_rfl) (by kernel_rfl) (by kernel_rfl) (show laidMetH Tryz.prog Rows.termsStepsRow.laid _ from nobody_door os _)) ?_
 intro W base args ds gs before hval0 hW hL hsh
 have hval:∀(j:Nat) t v,Tryz.f6.params[j]?=some t→args[j]?=some v→Value.okWide Tryz.prog W .any base t v:=hval0
 have hW':=hW
 obtain⟨p,q,hA0,hV,rfl,_,_⟩:=hW
 have hA:DataW.TrodAll enc Tryz.prog W 0 (fun _=>true) true Tryz.f6.params.toList args.toList ds p:=hA0
 rw[Tryz.params6] at hA hval
 obtain⟨v0,v1,v2,d0,d1,d2,p0,p1,p2,rfl,rfl,rfl,h0,h1,h2⟩:=trodAll_three hA
 obtain⟨rfl,rfl⟩:=trodVars_none hV
 obtain⟨A0,m0,c0,rfl⟩:=okWide_slice under_nodes (hval 0 47 v0 rfl rfl)
 obtain⟨l0,k0,f0⟩:=openedNodes h0
 obtain⟨A1,m1,c1,rfl⟩:=okWide_slice under_nodes (hval 1 47 v1 rfl rfl)
 obtain⟨l1,k1,f1⟩:=openedNodes h1
 obtain⟨A2,m2,c2,rfl⟩:=okWide_slice under_strs (hval 2 36 v2 rfl rfl)
 obtain⟨l2,k2⟩:=openedStrs h2
 clear hA0 hval0
 simp only[List.append_nil] at hW'
 have hlt0:∀x∈p0,x.block < W.heap.size:=fun x hx=>hW'.lt x (by simp[hx])
 have hlt1:∀x∈p1,x.block < W.heap.size:=fun x hx=>hW'.lt x (by simp[hx])
 have hlt2:∀x∈p2,x.block < W.heap.size:=fun x hx=>hW'.lt x (by simp[hx])
 refine (agrees_any k0 (Nat.le_refl _) f0 k1 (Nat.le_refl _) f1 k2 (libOk (laid_nobody (show laidMetH Tryz.prog Rows.termsStepsRow.laid W from hL) hsh))).mono fun e W' ⟨he,hb⟩ => ?_
 subst he
 have harg0:DataW.Trod enc Tryz.prog W' 0 (fun b=>decide (b < W.heap.size)) true 47 _ d0 p0:=
  Below.trod laid_out (by kernel_rfl) (of_decide_eq_true (by kernel_rfl)) h0 hb hlt0
 have harg1:DataW.Trod enc Tryz.prog W' 0 (fun b=>decide (b < W.heap.size)) true 47 _ d1 p1:=
  Below.trod laid_out (by kernel_rfl) (of_decide_eq_true (by kernel_rfl)) h1 hb hlt1
 have harg2:DataW.Trod enc Tryz.prog W' 0 (fun b=>decide (b < W.heap.size)) true 36 _ d2 p2:=
  Below.trod laid_out (by kernel_rfl) (of_decide_eq_true (by kernel_rfl)) h2 hb hlt2
 exact⟨_,rfl,_,_,_,[],_,[],hW',trodAll_mk1 (shut_bool under_bool _),trodAll_mk3 harg0 harg1 harg2,rfl,hb.frame _,fun h=>by cases h⟩
theorem termsAgrees_holds:Rows.TermsAgreesSaid:=
 OpenClaim.holds_of_wide 6 Tryz.f6 rfl rfl rfl rfl rfl rfl rfl ⟨rfl,rfl,rfl,rfl,rfl⟩ rfl rfl rfl rfl rfl (by kernel_rfl) Tryz.func6 (by kernel_rfl)
  (of_decide_eq_true (by kernel_rfl)) (by unfold Func.isWrapper;first | (rw[if_pos (by decide +kernel)];kernel_rfl) | (rw[if_neg (by decide +kernel)];exact⟨rfl,rfl⟩))
  (fun os started H enc _=>termsAgrees_lifted os started H enc)
theorem termsAgreesCard_holds:Rows.TermsAgreesCardSaid:=
 Claim7.holds_tied_plain_at .later [] [.data,.data,.data,.data,.sentinel,.sentinel,.listed,.data,.pinned] true Rows.termsAgreesCard.stood.harness true
  termsAgrees_holds (fun _ h=>by cases h) (by kernel_rfl) (fun _ h=>by cases h) termsAgrees_row_tie rfl ⟨rfl,rfl⟩ (by kernel_rfl) rfl
  (fun f fn hf hfn=>by
   obtain rfl:f=6:=Option.some.inj ((show Tryz.prog.funcNamed Rows.termsAgreesRow.func=some 6 by kernel_rfl).symm.trans hf) |>.symm
   obtain rfl:fn=Tryz.f6:=(Option.some.inj (Tryz.func6.symm.trans hfn)).symm
   exact⟨by kernel_rfl,fun j t ht=>by
    rw[Tryz.params6] at ht
    have hm:t∈[47,47,36]:=by simpa using Array.mem_of_getElem? ht
    have hall:([47,47,36].all fun u => !Tryz.prog.wantsStandIn u)=true:=by kernel_rfl
    exact (show Tryz.prog.wantsStandIn t=false by simpa using List.all_eq_true.1 hall t hm)⟩)
  (by kernel_rfl)
#print axioms termsAgreesCard_holds
end Go.Proofs.YtobpacebpiabcaaGreatDoor
