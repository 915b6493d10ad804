/- An argument of type api.Pools. -/
import Derived.Test.YtneliejncfncdaaZa
import Derived.Test.YtneliejncfncdaaF
import Derived.Lib.SmallJoins
namespace Go.Proofs.Ytneliejncfncdaa
open Go.ChangeShapes Go.WideShapes Go.ChangeAt Go.RowKit Go.Joins

set_option maxRecDepth 100000 in
theorem openedPools {H : Type} {enc : TypeId × Value → H} {W : World} {r : Reach} {b0 : Nat} {v : Value} {d : DataW H} {p : List MemPlace}
    (hv : Value.okWide Try.prog W r b0 35 v) (h : DataW.Trod enc Try.prog W 0 (fun _ => true) true 35 v d p) :
    ∃ q t n : Int, v = pools q t n ∧ p = [] ∧ I64 q ∧ I64 t ∧ I64 n ∧ ∀ (W' : World) (sp : Nat → Bool), DataW.Trod enc Try.prog W' 0 sp true 35 (pools q t n) d [] := by
  obtain ⟨u0, u1, u2, y0, y1, y2, nn, rfl, rfl, rfl, g0, g1, g2⟩ := open_agg3 Try.underlying35 (by kernel_rfl) (by kernel_rfl) hv h
  obtain ⟨q, e0, rfl, w0⟩ := DataW.trod_int Try.underlying3 g0
  obtain ⟨t, e1, rfl, w1⟩ := DataW.trod_int Try.underlying3 g1
  obtain ⟨n, e2, rfl, w2⟩ := DataW.trod_int Try.underlying3 g2
  cases e0; cases e1; cases e2
  exact ⟨q, t, n, rfl, rfl, I64_of_wf w0, I64_of_wf w1, I64_of_wf w2, fun W' sp => shut_agg3 (y0 := (.lit (.int .i64 q), [])) (y1 := (.lit (.int .i64 t), [])) (y2 := (.lit (.int .i64 n), [])) Try.underlying35 (by kernel_rfl) (by kernel_rfl) ⟨1, trod_int_mk 0 Try.underlying3 w0⟩ ⟨1, trod_int_mk 0 Try.underlying3 w1⟩ ⟨1, trod_int_mk 0 Try.underlying3 w2⟩⟩
end Go.Proofs.Ytneliejncfncdaa
