/- Texts Z Zf Zt in one. -/
import Derived.Test.YtklngjjokbhfpaaGreatA
import Derived.Test.YtklngjjokbhfpaaGreatW
import Derived.ProofKit
import Derived.OpenShut
import Derived.Lib.SmallJoins
namespace Go.Proofs.YtklngjjokbhfpaaGreat
open Go.ChangeShapes Go.WideShapes Go.ChangeAt Go.RowKit
theorem own_knob : ownKnob Tryz.prog.godebug = none := by kernel_rfl
theorem laid_out : laidOutB Tryz.prog = true := by kernel_rfl
theorem under_int : Tryz.prog.underlying 3 = some (.int .i64) := by kernel_rfl
theorem under_bool : Tryz.prog.underlying 4 = some .bool := by kernel_rfl
theorem I64_of_wf {x : Int} (h : (Lit.int .i64 x).wf = true) : I64 x := by
 simp [Lit.wf, IntKind.min, IntKind.max, IntKind.signed, IntKind.bits] at h
 exact ⟨by omega, by omega⟩
end Go.Proofs.YtklngjjokbhfpaaGreat

namespace Go.Proofs.YtklngjjokbhfpaaGreat
open Go.ChangeShapes Go.WideShapes Go.ChangeAt Go.RowKit Go.Joins
set_option maxRecDepth 100000 in
theorem openedFrac {H : Type} {enc : TypeId × Value → H} {W : World} {r : Reach} {b0 : Nat} {v : Value} {d : DataW H} {p : List MemPlace}
  (hv : Value.okWide Tryz.prog W r b0 28 v) (h : DataW.Trod enc Tryz.prog W 0 (fun _ => true) true 28 v d p) :
  ∃ a b : Int, v = .agg #[.int .i64 a, .int .i64 b] ∧ p = [] ∧ I64 a ∧ I64 b ∧ ∀ (W' : World) (sp : Nat → Bool), DataW.Trod enc Tryz.prog W' 0 sp true 28 (.agg #[.int .i64 a, .int .i64 b]) d [] := by
 obtain ⟨u0, u1, y0, y1, nn, rfl, rfl, rfl, g0, g1⟩ := open_agg2 Tryz.underlying28 (by kernel_rfl) (by kernel_rfl) hv h
 obtain ⟨a, e0, rfl, w0⟩ := DataW.trod_int under_int g0
 obtain ⟨b, e1, rfl, w1⟩ := DataW.trod_int under_int g1
 cases e0; cases e1
 exact ⟨a, b, rfl, rfl, I64_of_wf w0, I64_of_wf w1, fun W' sp => shut_agg2 (y0 := (.lit (.int .i64 a), [])) (y1 := (.lit (.int .i64 b), [])) Tryz.underlying28 (by kernel_rfl) (by kernel_rfl) ⟨1, trod_int_mk 0 under_int w0⟩ ⟨1, trod_int_mk 0 under_int w1⟩⟩
end Go.Proofs.YtklngjjokbhfpaaGreat

namespace Go.Proofs.YtklngjjokbhfpaaGreat
open Go.ChangeShapes Go.WideShapes Go.ChangeAt Go.RowKit Go.Joins
theorem cells_int : Tryz.prog.cellsOf 3 = 1 := by kernel_rfl
theorem under_ints : Tryz.prog.underlying 22 = some (.slice 3) := by kernel_rfl
theorem openedInts {H : Type} {enc : TypeId × Value → H} {W : World} {a0 : Option Addr} {len cap : Nat} {d0 : DataW H} {p : List MemPlace}
  (h0 : DataW.Trod enc Tryz.prog W 0 (fun _ => true) true 22 (.slice a0 len cap) d0 p) :
  ∃ xs : List Int, Ints .i64 W a0 xs ∧ xs.length = len ∧ len ≤ cap ∧ (a0 = none → cap = 0) ∧ cap ≤ 9223372036854775807 := by
 obtain ⟨fuel, hf⟩ := h0
 rcases open_ints under_ints under_int cells_int hf with ⟨hcs, hx⟩ | ⟨a, len', cap', zs, hcs, _, hl, hm, hz, hx, hcell, hwz⟩
 ·
  simp [Value.cells] at hcs
  obtain ⟨rfl, rfl, rfl⟩ := hcs
  exact ⟨[], .inl rfl, rfl, Nat.le_refl _, fun _ => rfl, by omega⟩
 ·
  simp [Value.cells] at hcs
  obtain ⟨rfl, rfl, rfl⟩ := hcs
  simp only [if_true] at hz
  have hm9 : cap ≤ 9223372036854775807 := by unfold maxLen at hm; omega
  refine ⟨zs.take len, ?_, by simp; omega, by omega, (by intro h; cases h), hm9⟩
  by_cases h0 : len = 0
  ·
   subst h0; exact .inl (by simp)
  ·
   obtain ⟨b, off, spot⟩ := a
   have g0 := hcell 0 (by omega)
   have hspot : spot = none := by simpa [Addr.add] using World.cell?_spot g0
   subst hspot
   refine .inr ⟨b, off, rfl, ?_, fun j v hj => ?_⟩
   ·
    have := World.block_lt_of_cell? W _ g0
    simpa [Addr.add] using this
   ·
    have hj2 : j < len := by
     have := (List.getElem?_eq_some_iff.1 hj).1
     simp at this
     omega
    have hc := hcell j (by omega)
    rw [Addr.add_lit] at hc
    rw [hc]
    simp [hj2] at hj
    simp [List.getD]
    obtain ⟨y, hy, rfl⟩ := hj
    simp [hy]
set_option maxRecDepth 100000 in
theorem openedTrain {H : Type} {enc : TypeId × Value → H} {W : World} {r : Reach} {b0 : Nat} {v : Value} {d : DataW H} {p : List MemPlace}
  (hv : Value.okWide Tryz.prog W r b0 24 v) (h : DataW.Trod enc Tryz.prog W 0 (fun _ => true) true 24 v d p) :
  ∃ (A : Option Addr) (n c : Nat) (B : Option Addr) (m e : Nat) (xs ys : List Int), v = .agg #[.slice A n c, .slice B m e] ∧
   (Ints .i64 W A xs ∧ xs.length = n ∧ n ≤ c ∧ (A = none → c = 0) ∧ c ≤ 9223372036854775807) ∧ (Ints .i64 W B ys ∧ ys.length = m ∧ m ≤ e ∧ (B = none → e = 0) ∧ e ≤ 9223372036854775807) := by
 obtain ⟨u0, u1, y0, y1, nn, rfl, rfl, rfl, g0, g1⟩ := open_agg2 Tryz.underlying24 (by kernel_rfl) (by kernel_rfl) hv h
 obtain ⟨A, n, c, hcs⟩ := slice_form under_ints g0
 cases hcs
 obtain ⟨B, m, e, hcs⟩ := slice_form under_ints g1
 cases hcs
 obtain ⟨xs, k⟩ := openedInts (a0 := A) (len := n) (cap := c) (d0 := y0.1) (p := y0.2) ⟨nn, by simpa [Value.cells] using g0⟩
 obtain ⟨ys, l⟩ := openedInts (a0 := B) (len := m) (cap := e) (d0 := y1.1) (p := y1.2) ⟨nn, by simpa [Value.cells] using g1⟩
 exact ⟨A, n, c, B, m, e, xs, ys, rfl, k, l⟩
end Go.Proofs.YtklngjjokbhfpaaGreat
