/- An argument of type [n]int. -/
import Derived.Test.YtneliejncfncdaaZa
import Derived.OpenShut
import Derived.Deep.Grids
namespace Go.Proofs.Ytneliejncfncdaa
open Go.ChangeShapes Go.WideShapes Go.ChangeAt Go.RowKit Go.Deep

set_option maxRecDepth 100000 in
theorem openedArr {H : Type} {enc : TypeId × Value → H} {W : World} {r : Reach} {b0 : Nat} {v : Value} {d : DataW H} {p : List MemPlace} {T n : Nat}
    (hT : Try.prog.underlying T = some (.array n 3)) (hC : Try.prog.cellsOf T = n)
    (hv : Value.okWide Try.prog W r b0 T v) (h : DataW.Trod enc Try.prog W 0 (fun _ => true) true T v d p) :
    ∃ zs : List Int, zs.length = n ∧ v = .agg (zs.map (Value.int .i64)).toArray ∧ ∀ x ∈ zs, I64 x := by
  simp only [Value.okWide, hT] at hv
  obtain ⟨cs, rfl, hsz, _⟩ := hv
  obtain ⟨fuel, hf⟩ := h
  simp only [Value.cells] at hf
  obtain ⟨xs, m, _, _, hl, hxl, hi⟩ := DataW.trod_array hT hf
  rw [hC] at hsz
  obtain ⟨B, hB⟩ := choose_lt (α := Int) (n := n) (p := fun i z => cs[i]? = some (.int .i64 z) ∧ I64 z) (fun i hin => by
    have h1 := hi i hin
    rw [Try.cells3, Nat.mul_one] at h1
    have h2 : xs[i]? = some (xs[i]'(by omega)) := List.getElem?_eq_getElem (by omega)
    rw [h2] at h1
    obtain ⟨z, hz, _, hw⟩ := DataW.trod_int Try.underlying3 h1
    refine ⟨z, ?_, I64_of_wf hw⟩
    rw [List.drop_eq_getElem_cons (by simp; omega)] at hz
    simp at hz
    rw [Array.getElem?_eq_getElem (by omega), hz])
  have e : cs = (((List.range n).map B).map (Value.int .i64)).toArray := by
    refine Array.ext_getElem? fun i => ?_
    by_cases hin : i < n
    · rw [(hB i hin).1]; simp [hin]
    · rw [Array.getElem?_eq_none (by omega), Array.getElem?_eq_none (by simp; omega)]
  refine ⟨(List.range n).map B, by simp, by rw [e], fun x hx => ?_⟩
  · obtain ⟨i, hi, rfl⟩ := List.mem_map.1 hx
    exact (hB i (List.mem_range.1 hi)).2

theorem list2 {zs : List Int} (h : zs.length = 2) : ∃ a b, zs = [a, b] := by
  match zs, h with
  | [a, b], _ => exact ⟨a, b, rfl⟩
theorem list3 {zs : List Int} (h : zs.length = 3) : ∃ a b c, zs = [a, b, c] := by
  match zs, h with
  | [a, b, c], _ => exact ⟨a, b, c, rfl⟩
theorem list5 {zs : List Int} (h : zs.length = 5) : ∃ a b c d e, zs = [a, b, c, d, e] := by
  match zs, h with
  | [a, b, c, d, e], _ => exact ⟨a, b, c, d, e, rfl⟩
end Go.Proofs.Ytneliejncfncdaa
