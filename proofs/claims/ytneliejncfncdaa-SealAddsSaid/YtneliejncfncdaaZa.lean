/- An argument of type []int, with the bounds of its numbers. -/
import Derived.Test.YtneliejncfncdaaZ
import Derived.Test.YtneliejncfncdaaFb
namespace Go.Proofs.Ytneliejncfncdaa
open Go.ChangeShapes Go.WideShapes Go.ChangeAt Go.RowKit

theorem I64_of_wf {x : Int} (h : (Lit.int .i64 x).wf = true) : I64 x := by
  simp [Lit.wf, IntKind.min, IntKind.max, IntKind.signed, IntKind.bits] at h
  exact ⟨by omega, by omega⟩

theorem opened64 {H : Type} {enc : TypeId × Value → H} {W : World} {a0 : Option Addr} {len cap : Nat} {d0 : DataW H} {p : List MemPlace}
    (h0 : DataW.Trod enc Try.prog W 0 (fun _ => true) true 22 (.slice a0 len cap) d0 p) :
    ∃ xs : List Int, xs.length = len ∧ len ≤ cap ∧ (a0 = none → cap = 0) ∧ Ints W a0 xs ∧ ∀ x ∈ xs, I64 x := by
  obtain ⟨fuel, hf⟩ := h0
  rcases open_ints Try.underlying22 Try.underlying3 Try.cells3 hf with ⟨hcs, hx⟩ | ⟨a, len', cap', zs, hcs, _, hl, hm, hz, hx, hcell, hwz⟩
  · simp [Value.cells] at hcs
    obtain ⟨rfl, rfl, rfl⟩ := hcs
    exact ⟨[], rfl, Nat.le_refl _, fun _ => rfl, Ints.nil _ _, by simp⟩
  · simp [Value.cells] at hcs
    obtain ⟨rfl, rfl, rfl⟩ := hcs
    simp only [if_true] at hz
    refine ⟨zs.take len, by simp; omega, by omega, (by intro h; cases h), ?_, fun x hx => I64_of_wf (hwz x (List.mem_of_mem_take hx))⟩
    by_cases h0 : len = 0
    · subst h0; exact .inl (by simp)
    · obtain ⟨b, off, spot⟩ := a
      have g0 := hcell 0 (by omega)
      have hspot : spot = none := by simpa [Addr.add] using World.cell?_spot g0
      subst hspot
      refine .inr ⟨b, off, rfl, ?_, fun j v hj => ?_⟩
      · have := World.block_lt_of_cell? W _ g0
        simpa [Addr.add] using this
      · have hj2 : j < len := by
          have := (List.getElem?_eq_some_iff.1 hj).1
          simp at this
          omega
        have hc := hcell j (by omega)
        rw [Addr.add_lit] at hc
        rw [hc]
        simp [List.getElem?_take, hj2] at hj
        simp [List.getD]
        obtain ⟨y, hy, rfl⟩ := hj
        simp [hy]
end Go.Proofs.Ytneliejncfncdaa
