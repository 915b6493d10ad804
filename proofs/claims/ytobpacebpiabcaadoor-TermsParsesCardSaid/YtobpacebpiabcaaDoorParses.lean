/- The tied card of the law TermsParses: it returns true for all arguments, and they read behind the call as before. Conditions: the library's tables and errors (package-level variables) hold what the program's text lays (tied). -/
import Derived.Test.YtobpacebpiabcaaDoorPkDa
import Derived.Test.YtobpacebpiabcaaDoorPkDb
import Derived.Test.YtobpacebpiabcaaDoorFl
import Derived.Test.YtobpacebpiabcaaDoorTie
import Derived.Test.YtobpacebpiabcaaDoorCards
import Derived.SevenTiedAt
import Derived.ChangeMaps5
import Derived.Lib.SmallJoins
namespace Go.Proofs.YtobpacebpiabcaaDoor
open Go.ChangeShapes Go.WideShapes Go.ChangeAt Go.RowKit

set_option maxRecDepth 100000 in
theorem termsParses_lifted (os : Os) (started : os.Started) (H : Type) (enc : TypeId × Value → H) :
    ReturnsInHanded {} Tryd.checked os 6 .any (fun w args => (Rows.termsParsesSpec.pre enc Tryd.prog Tryd.f6 Rows.termsParsesRow.domain false w args ∧ laidMetH Tryd.prog Rows.termsParsesRow.laid w) ∧ sizedMet enc Tryd.prog Tryd.f6 (OpenSpec.ofChange Rows.termsParsesSpec) false w args)
      (Rows.termsParsesSpec.post enc Tryd.prog Tryd.f6 false true false false) := by
  refine inHanded_and_shaped (C := Tryd.checked) (X := fun w _ => laidMetH Tryd.prog Rows.termsParsesRow.laid w) (fun _ _ _ hh h => h.of_heap hh) own_knob started (by kernel_rfl) Tryd.func6
    (ChangeSpec.witness_shaped (enc := enc) (C := Tryd.checked) (os := os) (X := fun w _ => laidMetH Tryd.prog Rows.termsParsesRow.laid w) false (World.laidAll Tryd.prog os Rows.termsParsesRow.laid) #[.string ⟨#[]⟩] 8 (World.laidAll_os _ _ _) (World.shaped_of_ZipB (by kernel_rfl) (by kernel_rfl)) (by kernel_rfl) (by kernel_rfl) (by kernel_rfl) (show laidMetH Tryd.prog Rows.termsNobodyRow.laid _ from nobody_door os _)) ?_
  intro W base args ds gs before hval0 hW hL hsh
  have hval : ∀ (j : Nat) t v, Tryd.f6.params[j]? = some t → args[j]? = some v → Value.okWide Tryd.prog W .any base t v := hval0
  have hW' := hW
  obtain ⟨p, q, hA0, hV, rfl, _, _⟩ := hW
  have hA : DataW.TrodAll enc Tryd.prog W 0 (fun _ => true) true Tryd.f6.params.toList args.toList ds p := hA0
  rw [Tryd.params6] at hA hval
  obtain ⟨v0, d0, rfl, rfl, h0⟩ := trodAll_one hA
  obtain ⟨rfl, rfl⟩ := trodVars_none hV
  obtain ⟨s0, rfl, rfl, rfl, w0⟩ := ChangeMaps.open_string under_string (hval 0 9 v0 rfl rfl) h0
  clear hA0 hval0
  simp only [List.append_nil] at hW'
  obtain ⟨⟨L⟩⟩ := s0
  have hlen : L.length ≤ 9223372036854775807 := w0
  have hw : Calls Tryd.prog 6 #[.string ⟨⟨L⟩⟩] W (RetW (.bool true) W) := parses_any (l0 := L) hlen (libOk (laid_nobody (show laidMetH Tryd.prog Rows.termsNobodyRow.laid W from hL) hsh))
  refine hw.mono fun e W' ⟨he, hb⟩ => ?_
  subst he
  exact ⟨_, rfl, _, _, _, [], _, [], hW', trodAll_mk1 (shut_bool under_bool _), trodAll_mk1 (ChangeMaps.shut_string under_string w0), rfl, hb.frame _, fun h => by cases h⟩

theorem termsParses_holds : Rows.TermsParsesSaid :=
  OpenClaim.holds_of_wide 6 Tryd.f6 rfl rfl rfl rfl rfl rfl rfl ⟨rfl, rfl, rfl, rfl, rfl⟩ rfl rfl rfl rfl rfl (by kernel_rfl) Tryd.func6 (by kernel_rfl)
    (of_decide_eq_true (by kernel_rfl)) (by unfold Func.isWrapper; first | (rw [if_pos (by decide +kernel)]; kernel_rfl) | (rw [if_neg (by decide +kernel)]; exact ⟨rfl, rfl⟩))
    (fun os started H enc _ => termsParses_lifted os started H enc)
theorem termsParsesCard_holds : Rows.TermsParsesCardSaid :=
  Claim7.holds_tied_plain_at .later [] [.data, .data, .data, .data, .sentinel, .sentinel, .listed, .data, .pinned] true Rows.termsParsesCard.stood.harness true
    termsParses_holds (fun _ h => by cases h) (by kernel_rfl) (fun _ h => by cases h) termsParses_row_tie rfl ⟨rfl, rfl⟩ (by kernel_rfl) rfl
    (fun f fn hf hfn => by
      obtain rfl : f = 6 := Option.some.inj ((show Tryd.prog.funcNamed Rows.termsParsesRow.func = some 6 by kernel_rfl).symm.trans hf) |>.symm
      obtain rfl : fn = Tryd.f6 := (Option.some.inj (Tryd.func6.symm.trans hfn)).symm
      exact ⟨by kernel_rfl, fun j t ht => by
        rw [Tryd.params6] at ht
        have hm : t ∈ [9] := by simpa using Array.mem_of_getElem? ht
        have hall : ([9].all fun u => !Tryd.prog.wantsStandIn u) = true := by kernel_rfl
        exact (show Tryd.prog.wantsStandIn t = false by simpa using List.all_eq_true.1 hall t hm)⟩)
    (by kernel_rfl)
#print axioms termsParsesCard_holds
end Go.Proofs.YtobpacebpiabcaaDoor
