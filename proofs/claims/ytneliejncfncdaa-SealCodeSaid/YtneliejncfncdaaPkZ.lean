/- Texts Z Za Zb Zc Zd in one. -/
import Derived.Test.YtneliejncfncdaaPkW
import Derived.Test.YtneliejncfncdaaRows
import Derived.ProofKit
import Derived.Test.YtneliejncfncdaaPkFa
import Derived.Test.YtneliejncfncdaaPkB
import Derived.Lib.SmallJoins
import Derived.Test.YtneliejncfncdaaPkHa
import Derived.Deep.Grids
import Derived.OpenShut
namespace Go.Proofs.Ytneliejncfncdaa
open Go.ChangeShapes Go.WideShapes Go.ChangeAt Go.RowKit

theorem Try.own : ownKnob Try.prog.godebug = none := by kernel_rfl
theorem Try.laidOut : laidOutB Try.prog = true := by kernel_rfl
theorem Try.cells3 : Try.prog.cellsOf 3 = 1 := by kernel_rfl

/-- An argument of type []int, nil or not. -/
theorem opened {H : Type} {enc : TypeId × Value → H} {W : World} {a0 : Option Addr} {len cap : Nat} {d0 : DataW H} {p : List MemPlace}
    (h0 : DataW.Trod enc Try.prog W 0 (fun _ => true) true 22 (.slice a0 len cap) d0 p) :
    ∃ xs : List Int, xs.length = len ∧ len ≤ cap ∧ (a0 = none → cap = 0) ∧ Ints W a0 xs := by
  obtain ⟨fuel, hf⟩ := h0
  rcases open_ints Try.underlying22 Try.underlying3 Try.cells3 hf with ⟨hcs, hx⟩ | ⟨a, len', cap', zs, hcs, _, hl, hm, hz, hx, hcell, hwz⟩
  · simp [Value.cells] at hcs
    obtain ⟨rfl, rfl, rfl⟩ := hcs
    exact ⟨[], rfl, Nat.le_refl _, fun _ => rfl, Ints.nil _ _⟩
  · simp [Value.cells] at hcs
    obtain ⟨rfl, rfl, rfl⟩ := hcs
    simp only [if_true] at hz
    refine ⟨zs.take len, by simp; omega, by omega, (by intro h; cases h), ?_⟩
    by_cases h0 : len = 0
    · subst h0; exact .inl (by simp)
    · obtain ⟨b, off, spot⟩ := a
      have g0 := hcell 0 (by omega)
      have hspot : spot = none := by simpa [Addr.add] using World.cell?_spot g0
      subst hspot
      refine .inr ⟨b, off, rfl, ?_, fun j v hj => ?_⟩
      · have := World.block_lt_of_cell? W _ g0
        simpa [Addr.add] using this
      · have hj2 : j < len := by
          have := (List.getElem?_eq_some_iff.1 hj).1
          simp at this
          omega
        have hc := hcell j (by omega)
        rw [Addr.add_lit] at hc
        rw [hc]
        simp [List.getElem?_take, hj2] at hj
        simp [List.getD]
        obtain ⟨y, hy, rfl⟩ := hj
        simp [hy]
end Go.Proofs.Ytneliejncfncdaa

namespace Go.Proofs.Ytneliejncfncdaa
open Go.ChangeShapes Go.WideShapes Go.ChangeAt Go.RowKit

theorem I64_of_wf {x : Int} (h : (Lit.int .i64 x).wf = true) : I64 x := by
  simp [Lit.wf, IntKind.min, IntKind.max, IntKind.signed, IntKind.bits] at h
  exact ⟨by omega, by omega⟩

theorem opened64 {H : Type} {enc : TypeId × Value → H} {W : World} {a0 : Option Addr} {len cap : Nat} {d0 : DataW H} {p : List MemPlace}
    (h0 : DataW.Trod enc Try.prog W 0 (fun _ => true) true 22 (.slice a0 len cap) d0 p) :
    ∃ xs : List Int, xs.length = len ∧ len ≤ cap ∧ (a0 = none → cap = 0) ∧ Ints W a0 xs ∧ ∀ x ∈ xs, I64 x := by
  obtain ⟨fuel, hf⟩ := h0
  rcases open_ints Try.underlying22 Try.underlying3 Try.cells3 hf with ⟨hcs, hx⟩ | ⟨a, len', cap', zs, hcs, _, hl, hm, hz, hx, hcell, hwz⟩
  · simp [Value.cells] at hcs
    obtain ⟨rfl, rfl, rfl⟩ := hcs
    exact ⟨[], rfl, Nat.le_refl _, fun _ => rfl, Ints.nil _ _, by simp⟩
  · simp [Value.cells] at hcs
    obtain ⟨rfl, rfl, rfl⟩ := hcs
    simp only [if_true] at hz
    refine ⟨zs.take len, by simp; omega, by omega, (by intro h; cases h), ?_, fun x hx => I64_of_wf (hwz x (List.mem_of_mem_take hx))⟩
    by_cases h0 : len = 0
    · subst h0; exact .inl (by simp)
    · obtain ⟨b, off, spot⟩ := a
      have g0 := hcell 0 (by omega)
      have hspot : spot = none := by simpa [Addr.add] using World.cell?_spot g0
      subst hspot
      refine .inr ⟨b, off, rfl, ?_, fun j v hj => ?_⟩
      · have := World.block_lt_of_cell? W _ g0
        simpa [Addr.add] using this
      · have hj2 : j < len := by
          have := (List.getElem?_eq_some_iff.1 hj).1
          simp at this
          omega
        have hc := hcell j (by omega)
        rw [Addr.add_lit] at hc
        rw [hc]
        simp [List.getElem?_take, hj2] at hj
        simp [List.getD]
        obtain ⟨y, hy, rfl⟩ := hj
        simp [hy]
end Go.Proofs.Ytneliejncfncdaa

namespace Go.Proofs.Ytneliejncfncdaa
open Go.ChangeShapes Go.WideShapes Go.ChangeAt Go.RowKit Go.Joins

set_option maxRecDepth 100000 in
theorem openedPools {H : Type} {enc : TypeId × Value → H} {W : World} {r : Reach} {b0 : Nat} {v : Value} {d : DataW H} {p : List MemPlace}
    (hv : Value.okWide Try.prog W r b0 35 v) (h : DataW.Trod enc Try.prog W 0 (fun _ => true) true 35 v d p) :
    ∃ q t n : Int, v = pools q t n ∧ p = [] ∧ I64 q ∧ I64 t ∧ I64 n ∧ ∀ (W' : World) (sp : Nat → Bool), DataW.Trod enc Try.prog W' 0 sp true 35 (pools q t n) d [] := by
  obtain ⟨u0, u1, u2, y0, y1, y2, nn, rfl, rfl, rfl, g0, g1, g2⟩ := open_agg3 Try.underlying35 (by kernel_rfl) (by kernel_rfl) hv h
  obtain ⟨q, e0, rfl, w0⟩ := DataW.trod_int Try.underlying3 g0
  obtain ⟨t, e1, rfl, w1⟩ := DataW.trod_int Try.underlying3 g1
  obtain ⟨n, e2, rfl, w2⟩ := DataW.trod_int Try.underlying3 g2
  cases e0; cases e1; cases e2
  exact ⟨q, t, n, rfl, rfl, I64_of_wf w0, I64_of_wf w1, I64_of_wf w2, fun W' sp => shut_agg3 (y0 := (.lit (.int .i64 q), [])) (y1 := (.lit (.int .i64 t), [])) (y2 := (.lit (.int .i64 n), [])) Try.underlying35 (by kernel_rfl) (by kernel_rfl) ⟨1, trod_int_mk 0 Try.underlying3 w0⟩ ⟨1, trod_int_mk 0 Try.underlying3 w1⟩ ⟨1, trod_int_mk 0 Try.underlying3 w2⟩⟩
end Go.Proofs.Ytneliejncfncdaa

namespace Go.Proofs.Ytneliejncfncdaa
open Go.ChangeShapes Go.WideShapes Go.ChangeAt Go.RowKit Go.Joins Go.Deep

theorem Try.cells4 : Try.prog.cellsOf 4 = 1 := by kernel_rfl

theorem openedBools {H : Type} {enc : TypeId × Value → H} {W : World} {v : Value} {fuel : Nat} {y : DataW H × List MemPlace}
    (hf : DataW.trod enc Try.prog W 0 (fun _ => true) true fuel 60 [v] = some y) :
    ∃ (R : Option Addr) (M cR : Nat) (rs : List Bool), v = .slice R M cR ∧ rs.length = M ∧ M ≤ cR ∧ (R = none → cR = 0) ∧ Bools W R rs := by
  rcases open_bools Try.underlying60 Try.underlying4 Try.cells4 hf with ⟨hcs, hx⟩ | ⟨a, len, cap, B, hcs, _, hl, hm, hx, hcell⟩
  · cases hcs
    exact ⟨none, 0, 0, [], rfl, rfl, Nat.le_refl _, fun _ => rfl, .inl rfl⟩
  · cases hcs
    refine ⟨some a, len, cap, (List.range len).map B, rfl, by simp, hl, (by intro h; cases h), ?_⟩
    by_cases h0 : len = 0
    · subst h0; exact .inl rfl
    · obtain ⟨b, off, spot⟩ := a
      have g0 := hcell 0 (by omega)
      have hspot : spot = none := by simpa [Addr.add] using World.cell?_spot g0
      subst hspot
      refine .inr ⟨b, off, rfl, ?_, fun j v hj => ?_⟩
      · have := World.block_lt_of_cell? W _ g0
        simpa [Addr.add] using this
      · have hj2 : j < len := by
          have := (List.getElem?_eq_some_iff.1 hj).1
          simpa using this
        have hc := hcell j (by omega)
        rw [Addr.add_lit] at hc
        rw [hc]
        simp [hj2] at hj
        rw [hj]

set_option maxRecDepth 100000 in
theorem openedRound {H : Type} {enc : TypeId × Value → H} {W : World} {r : Reach} {b0 : Nat} {v : Value} {d : DataW H} {p : List MemPlace}
    (hv : Value.okWide Try.prog W r b0 78 v) (h : DataW.Trod enc Try.prog W 0 (fun _ => true) true 78 v d p) :
    ∃ (R : Option Addr) (M cR : Nat) (rs : List Bool) (A : Option Addr) (m c : Nat) (xs : List Int) (e : Int), v = .agg #[.slice R M cR, .slice A m c, .int .i64 e] ∧
      rs.length = M ∧ M ≤ cR ∧ (R = none → cR = 0) ∧ Bools W R rs ∧ xs.length = m ∧ m ≤ c ∧ (A = none → c = 0) ∧ Ints W A xs ∧ (∀ x ∈ xs, I64 x) ∧ I64 e := by
  obtain ⟨u0, u1, u2, y0, y1, y2, nn, rfl, rfl, rfl, g0, g1, g2⟩ := open_agg3 Try.underlying78 (by kernel_rfl) (by kernel_rfl) hv h
  obtain ⟨R, M, cR, rs, rfl, h1, h2, h3, h4⟩ := openedBools g0
  obtain ⟨A, m, c, hcs⟩ := slice_form Try.underlying22 g1
  cases hcs
  obtain ⟨xs, k1, k2, k3, k4, k5⟩ := opened64 (a0 := A) (len := m) (cap := c) (d0 := y1.1) (p := y1.2) ⟨nn, by simpa [Value.cells] using g1⟩
  obtain ⟨e, e2, rfl, w2⟩ := DataW.trod_int Try.underlying3 g2
  cases e2
  exact ⟨R, M, cR, rs, A, m, c, xs, e, rfl, h1, h2, h3, h4, k1, k2, k3, k4, k5, I64_of_wf w2⟩
end Go.Proofs.Ytneliejncfncdaa

namespace Go.Proofs.Ytneliejncfncdaa
open Go.ChangeShapes Go.WideShapes Go.ChangeAt Go.RowKit Go.Deep

set_option maxRecDepth 100000 in
theorem openedArr {H : Type} {enc : TypeId × Value → H} {W : World} {r : Reach} {b0 : Nat} {v : Value} {d : DataW H} {p : List MemPlace} {T n : Nat}
    (hT : Try.prog.underlying T = some (.array n 3)) (hC : Try.prog.cellsOf T = n)
    (hv : Value.okWide Try.prog W r b0 T v) (h : DataW.Trod enc Try.prog W 0 (fun _ => true) true T v d p) :
    ∃ zs : List Int, zs.length = n ∧ v = .agg (zs.map (Value.int .i64)).toArray ∧ ∀ x ∈ zs, I64 x := by
  simp only [Value.okWide, hT] at hv
  obtain ⟨cs, rfl, hsz, _⟩ := hv
  obtain ⟨fuel, hf⟩ := h
  simp only [Value.cells] at hf
  obtain ⟨xs, m, _, _, hl, hxl, hi⟩ := DataW.trod_array hT hf
  rw [hC] at hsz
  obtain ⟨B, hB⟩ := choose_lt (α := Int) (n := n) (p := fun i z => cs[i]? = some (.int .i64 z) ∧ I64 z) (fun i hin => by
    have h1 := hi i hin
    rw [Try.cells3, Nat.mul_one] at h1
    have h2 : xs[i]? = some (xs[i]'(by omega)) := List.getElem?_eq_getElem (by omega)
    rw [h2] at h1
    obtain ⟨z, hz, _, hw⟩ := DataW.trod_int Try.underlying3 h1
    refine ⟨z, ?_, I64_of_wf hw⟩
    rw [List.drop_eq_getElem_cons (by simp; omega)] at hz
    simp at hz
    rw [Array.getElem?_eq_getElem (by omega), hz])
  have e : cs = (((List.range n).map B).map (Value.int .i64)).toArray := by
    refine Array.ext_getElem? fun i => ?_
    by_cases hin : i < n
    · rw [(hB i hin).1]; simp [hin]
    · rw [Array.getElem?_eq_none (by omega), Array.getElem?_eq_none (by simp; omega)]
  refine ⟨(List.range n).map B, by simp, by rw [e], fun x hx => ?_⟩
  · obtain ⟨i, hi, rfl⟩ := List.mem_map.1 hx
    exact (hB i (List.mem_range.1 hi)).2

theorem list2 {zs : List Int} (h : zs.length = 2) : ∃ a b, zs = [a, b] := by
  match zs, h with
  | [a, b], _ => exact ⟨a, b, rfl⟩
theorem list3 {zs : List Int} (h : zs.length = 3) : ∃ a b c, zs = [a, b, c] := by
  match zs, h with
  | [a, b, c], _ => exact ⟨a, b, c, rfl⟩
theorem list5 {zs : List Int} (h : zs.length = 5) : ∃ a b c d e, zs = [a, b, c, d, e] := by
  match zs, h with
  | [a, b, c, d, e], _ => exact ⟨a, b, c, d, e, rfl⟩
end Go.Proofs.Ytneliejncfncdaa
