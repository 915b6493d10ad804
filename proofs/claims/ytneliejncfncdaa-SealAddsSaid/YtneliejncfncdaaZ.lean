/- Words for the rows. -/
import Derived.Test.YtneliejncfncdaaA
import Derived.Test.YtneliejncfncdaaW
import Derived.Test.YtneliejncfncdaaRows
import Derived.ProofKit
namespace Go.Proofs.Ytneliejncfncdaa
open Go.ChangeShapes Go.WideShapes Go.ChangeAt Go.RowKit

theorem Try.own : ownKnob Try.prog.godebug = none := by kernel_rfl
theorem Try.laidOut : laidOutB Try.prog = true := by kernel_rfl
theorem Try.cells3 : Try.prog.cellsOf 3 = 1 := by kernel_rfl

/-- An argument of type []int, nil or not. -/
theorem opened {H : Type} {enc : TypeId × Value → H} {W : World} {a0 : Option Addr} {len cap : Nat} {d0 : DataW H} {p : List MemPlace}
    (h0 : DataW.Trod enc Try.prog W 0 (fun _ => true) true 22 (.slice a0 len cap) d0 p) :
    ∃ xs : List Int, xs.length = len ∧ len ≤ cap ∧ (a0 = none → cap = 0) ∧ Ints W a0 xs := by
  obtain ⟨fuel, hf⟩ := h0
  rcases open_ints Try.underlying22 Try.underlying3 Try.cells3 hf with ⟨hcs, hx⟩ | ⟨a, len', cap', zs, hcs, _, hl, hm, hz, hx, hcell, hwz⟩
  · simp [Value.cells] at hcs
    obtain ⟨rfl, rfl, rfl⟩ := hcs
    exact ⟨[], rfl, Nat.le_refl _, fun _ => rfl, Ints.nil _ _⟩
  · simp [Value.cells] at hcs
    obtain ⟨rfl, rfl, rfl⟩ := hcs
    simp only [if_true] at hz
    refine ⟨zs.take len, by simp; omega, by omega, (by intro h; cases h), ?_⟩
    by_cases h0 : len = 0
    · subst h0; exact .inl (by simp)
    · obtain ⟨b, off, spot⟩ := a
      have g0 := hcell 0 (by omega)
      have hspot : spot = none := by simpa [Addr.add] using World.cell?_spot g0
      subst hspot
      refine .inr ⟨b, off, rfl, ?_, fun j v hj => ?_⟩
      · have := World.block_lt_of_cell? W _ g0
        simpa [Addr.add] using this
      · have hj2 : j < len := by
          have := (List.getElem?_eq_some_iff.1 hj).1
          simp at this
          omega
        have hc := hcell j (by omega)
        rw [Addr.add_lit] at hc
        rw [hc]
        simp [List.getElem?_take, hj2] at hj
        simp [List.getD]
        obtain ⟨y, hy, rfl⟩ := hj
        simp [hy]
end Go.Proofs.Ytneliejncfncdaa
