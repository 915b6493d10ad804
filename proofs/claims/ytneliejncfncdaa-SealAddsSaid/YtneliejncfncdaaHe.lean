/- make([]bool). -/
import Derived.Test.YtneliejncfncdaaHa
import Derived.Test.YtneliejncfncdaaH
namespace Go.Proofs.Ytneliejncfncdaa
open Go.RowKit

theorem Try.info4b : (Try.prog.info? 4).map (fun i => (i.zero, i.size, i.bytes)) = some (some (.bool false), 1, 1) := by kernel_rfl
theorem Try.under60 : Try.prog.underlying 60 = some (.slice 4) := by kernel_rfl

/-- make([]bool, n). -/
theorem wpList_makeBools {ops : Array Oper} {rest : List Oper} {o : Oper} {a : Act} {Q : Exit → Act → World → Prop} (w : World) (hg : o.guard = none) (l c : Operand) (hop : o.op = Op.makeSlice 60 l c)
    (base : Nat) (L C : Int) (n : Nat) (hl : a.eval l = .int .i64 L) (hc : a.eval c = .int .i64 C) (hL : L = (n : Int)) (hC : C = (n : Int)) (hn : n ≤ 1000000) (hb : base ≤ w.heap.size)
    (hK : ∀ w', OwnB w' base (.slice (some ⟨w.heap.size, 0, none⟩) n n) n (List.replicate n false) → w.grownBy w' none → wpList Try.prog ops Q rest (a.put o.dst (.slice (some ⟨w.heap.size, 0, none⟩) n n)) w') :
    wpList Try.prog ops Q (o :: rest) a w := by
  obtain ⟨i0, hi0, hz0, hz1, hz2⟩ := info_parts Try.info4b
  refine wpList_make_full _ hg l c 60 hop base 4 i0 (.bool false) 1 Try.under60 hi0 hz0 hz1 .i64 .i64 L C n hl hc hL hC (by rw [hz2]; omega) (by unfold maxLen; omega) hb ?_
  intro w' h1
  refine hK w' ?_
  have e : (madeCells (Value.bool false).cells (n * 1)).toList = (List.replicate n false).map Value.bool := by
    rw [show (Value.bool false).cells = #[Value.bool false] from rfl, toList_madeCells_one]; simp
  unfold OwnB
  rw [← e]
  exact h1
end Go.Proofs.Ytneliejncfncdaa
