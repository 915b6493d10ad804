/- Closed facts of the row HouseNobody: put together. -/
import Derived.Test.YtbkgbkmpalbdpaaGreatDoorNa
import Derived.Test.YtbkgbkmpalbdpaaGreatDoorNb
import Derived.Test.YtbkgbkmpalbdpaaGreatDoorNc
import Derived.Test.YtbkgbkmpalbdpaaGreatDoorRows
import Derived.Test.YtbkgbkmpalbdpaaGreatDoorCards
import Derived.SevenTiedAt
import Derived.JoinedOf
namespace Go.Proofs.YtbkgbkmpalbdpaaGreatDoor
open Go

theorem and_both {a b : Bool} (ha : a = true) (hb : b = true) : (a && b) = true := by rw [ha, hb]; rfl
set_option maxRecDepth 100000 in
theorem jf_all : joinedFacts Tryz.pinned.checked.prog 4 Tryz.f4 Rows.houseNobodySpec Rows.houseNobodyRow = true := by
  unfold joinedFacts
  exact and_both (and_both (and_both (and_both (and_both (and_both (and_both (and_both (and_both (and_both (and_both (and_both (and_both (and_both (and_both (and_both (and_both (and_both (and_both (and_both (and_both (and_both (and_both (and_both (and_both (and_both (and_both (and_both (and_both (and_both (and_both (jf0) jf1) jf2) jf3) jf4) jf5) jf6) jf7) jf8) jf9) jf10) jf11) jf12) jf13) jf14) jf15) jf16) jf17) jf18) jf19) jf20) jf21) jf22) jf23) jf24) jf25) jf26) jf27) jf28) jf29) jf30) jf31
theorem nf_named : Tryz.pinned.checked.prog.funcNamed Rows.houseNobodyRow.func = some 4 := by kernel_rfl
theorem nf_inst : Tryz.f4.isInstance Tryz.pinned.checked.prog Rows.houseNobodyRow.origin Rows.houseNobodyRow.targs := of_decide_eq_true (by kernel_rfl)
theorem nf_wrap : Tryz.f4.isWrapper Tryz.pinned.checked.prog Rows.houseNobodyRow.wrapper Rows.houseNobodyRow.mainSum := by unfold Func.isWrapper; first | (rw [if_pos (by decide +kernel)]; kernel_rfl) | (rw [if_neg (by decide +kernel)]; exact ⟨rfl, rfl⟩)
theorem nf_wf : Rows.houseNobodyRow.wfByText (OpenSpec.ofChange Rows.houseNobodySpec) = true := by kernel_rfl
theorem nf_main : Tryz.pinned.checked.prog.mainIs = some (Rows.houseNobodyCard.stood.harness.1, Rows.houseNobodyCard.stood.harness.2.toList) := by kernel_rfl
theorem nf_looks : true = Tryz.pinned.checked.prog.looks [] := by kernel_rfl
theorem goes_none {P : Program} (h : P.funcs.any Func.goes = false) (f : FuncId) : P.goes f = false := by
  unfold Program.goes
  rw [h, Bool.and_false, Bool.or_false, Bool.eq_false_iff]
  intro q
  obtain ⟨g, _, hg⟩ := List.any_eq_true.1 q
  cases e : P.funcs[g]? with
  | none => rw [e] at hg; cases hg
  | some fn =>
    rw [e] at hg
    have h2 : P.funcs.any Func.goes = true := Array.any_eq_true.2 (by
      obtain ⟨hlt, he⟩ := Array.getElem?_eq_some_iff.1 e
      exact ⟨g, hlt, by rw [he]; exact hg⟩)
    rw [h] at h2
    cases h2
theorem nf_nogo : Tryz.pinned.checked.prog.funcs.any Func.goes = false := by kernel_rfl
theorem goesBy_none {P : Program} {c : OpenClaim} {f : FuncId} (hn : P.funcNamed c.func = some f) (hs : c.start = .entering) (h : P.funcs.any Func.goes = false) : false = c.goesBy P := by
  unfold OpenClaim.goesBy Program.goesAt Program.goesFrom
  rw [hn, hs]
  show false = (P.goes f || false)
  rw [goes_none h]
  rfl
theorem nf_goes : false = Rows.houseNobodyRow.goesBy Tryz.pinned.checked.prog := goesBy_none nf_named rfl nf_nogo
end Go.Proofs.YtbkgbkmpalbdpaaGreatDoor
