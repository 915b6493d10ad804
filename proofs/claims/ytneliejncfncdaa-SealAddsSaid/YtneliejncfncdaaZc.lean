/- An argument of type Round. -/
import Derived.Test.YtneliejncfncdaaZb
import Derived.Test.YtneliejncfncdaaHa
import Derived.Deep.Grids
namespace Go.Proofs.Ytneliejncfncdaa
open Go.ChangeShapes Go.WideShapes Go.ChangeAt Go.RowKit Go.Joins Go.Deep

theorem Try.cells4 : Try.prog.cellsOf 4 = 1 := by kernel_rfl

theorem openedBools {H : Type} {enc : TypeId × Value → H} {W : World} {v : Value} {fuel : Nat} {y : DataW H × List MemPlace}
    (hf : DataW.trod enc Try.prog W 0 (fun _ => true) true fuel 60 [v] = some y) :
    ∃ (R : Option Addr) (M cR : Nat) (rs : List Bool), v = .slice R M cR ∧ rs.length = M ∧ M ≤ cR ∧ (R = none → cR = 0) ∧ Bools W R rs := by
  rcases open_bools Try.underlying60 Try.underlying4 Try.cells4 hf with ⟨hcs, hx⟩ | ⟨a, len, cap, B, hcs, _, hl, hm, hx, hcell⟩
  · cases hcs
    exact ⟨none, 0, 0, [], rfl, rfl, Nat.le_refl _, fun _ => rfl, .inl rfl⟩
  · cases hcs
    refine ⟨some a, len, cap, (List.range len).map B, rfl, by simp, hl, (by intro h; cases h), ?_⟩
    by_cases h0 : len = 0
    · subst h0; exact .inl rfl
    · obtain ⟨b, off, spot⟩ := a
      have g0 := hcell 0 (by omega)
      have hspot : spot = none := by simpa [Addr.add] using World.cell?_spot g0
      subst hspot
      refine .inr ⟨b, off, rfl, ?_, fun j v hj => ?_⟩
      · have := World.block_lt_of_cell? W _ g0
        simpa [Addr.add] using this
      · have hj2 : j < len := by
          have := (List.getElem?_eq_some_iff.1 hj).1
          simpa using this
        have hc := hcell j (by omega)
        rw [Addr.add_lit] at hc
        rw [hc]
        simp [hj2] at hj
        rw [hj]

set_option maxRecDepth 100000 in
theorem openedRound {H : Type} {enc : TypeId × Value → H} {W : World} {r : Reach} {b0 : Nat} {v : Value} {d : DataW H} {p : List MemPlace}
    (hv : Value.okWide Try.prog W r b0 78 v) (h : DataW.Trod enc Try.prog W 0 (fun _ => true) true 78 v d p) :
    ∃ (R : Option Addr) (M cR : Nat) (rs : List Bool) (A : Option Addr) (m c : Nat) (xs : List Int) (e : Int), v = .agg #[.slice R M cR, .slice A m c, .int .i64 e] ∧
      rs.length = M ∧ M ≤ cR ∧ (R = none → cR = 0) ∧ Bools W R rs ∧ xs.length = m ∧ m ≤ c ∧ (A = none → c = 0) ∧ Ints W A xs ∧ (∀ x ∈ xs, I64 x) ∧ I64 e := by
  obtain ⟨u0, u1, u2, y0, y1, y2, nn, rfl, rfl, rfl, g0, g1, g2⟩ := open_agg3 Try.underlying78 (by kernel_rfl) (by kernel_rfl) hv h
  obtain ⟨R, M, cR, rs, rfl, h1, h2, h3, h4⟩ := openedBools g0
  obtain ⟨A, m, c, hcs⟩ := slice_form Try.underlying22 g1
  cases hcs
  obtain ⟨xs, k1, k2, k3, k4, k5⟩ := opened64 (a0 := A) (len := m) (cap := c) (d0 := y1.1) (p := y1.2) ⟨nn, by simpa [Value.cells] using g1⟩
  obtain ⟨e, e2, rfl, w2⟩ := DataW.trod_int Try.underlying3 g2
  cases e2
  exact ⟨R, M, cR, rs, A, m, c, xs, e, rfl, h1, h2, h3, h4, k1, k2, k3, k4, k5, I64_of_wf w2⟩
end Go.Proofs.Ytneliejncfncdaa
