/- Rows of numbers of one kind: append of one, make. -/
import Derived.Test.YtklngjjokbhfpaaGreatDoorA
import Derived.Test.YtklngjjokbhfpaaGreatDoorW
import Derived.Deep.RegionHeld3
import Derived.Deep.AppendLies
import Derived.Deep.DrawnRows
namespace Go.Proofs.YtklngjjokbhfpaaGreatDoor
open Go.RowKit

/-- The type e is of integers of a kind, st is the slices of it. -/
structure Elem (e st : TypeId) (κ : IntKind) (bytes : Nat) : Prop where
  under : Tryz.prog.underlying st = some (.slice e)
  info : (Tryz.prog.info? e).map (fun i => (i.zero, i.size, i.bytes)) = some (some (.int κ 0), 1, bytes)
  small : bytes ≤ 8
theorem elemI : Elem 3 41 .i64 8 := ⟨by kernel_rfl, by kernel_rfl, by omega⟩
theorem elemU : Elem 135 89 .u32 4 := ⟨by kernel_rfl, by kernel_rfl, by omega⟩

section
variable {e st : TypeId} {κ : IntKind} {bytes : Nat}
/-- append of one number, at a plain region's list. -/
theorem wpList_one (E : Elem e st κ bytes) {ops : Array Oper} {rest : List Oper} {o : Oper} {a : Act} {Q : Exit → Act → World → Prop} (w : World) (hgd : o.guard = none) (s x : Operand)
    (ho : o.op = .call { callee := .builtin .append, args := #[s, x], argTypes := #[st, st] })
    (base : Nat) (v : Value) (n : Nat) (xs : List Int) (hs : a.eval s = v) (hown : Own e κ w base v n xs)
    (H0 : Nat) (y : Int) (hx : a.eval x = .slice (some ⟨H0, 0, none⟩) 1 1) (hblk : w.heap[H0]? = some (.cells #[.int κ y] e (0, 0)))
    (hn : n ≤ 1000000) (hbase : base ≤ w.heap.size) (H : Nat) (hH : w.heap.size = H)
    (h : ∀ g cap w', Own e κ w' base (.slice (some ⟨g, 0, none⟩) (n + 1) cap) (n + 1) (xs ++ [y]) → w.grownBy w' v.ownBlock → (v.ownBlock = some g ∨ g = H) → g < w'.heap.size → wpList Tryz.prog ops Q rest (a.put o.dst (.slice (some ⟨g, 0, none⟩) (n + 1) cap)) w') : wpList Tryz.prog ops Q (o :: rest) a w := by
  obtain ⟨i0, hi0, hz0, hz1, hz2⟩ := info_parts E.info
  have := E.small
  refine wpList_append_lies _ hgd s x st ho base e i0 _ 1 bytes E.under hi0 hz0 hz1 hz2 rfl (by omega) v n _ hs hown.out ⟨H0, 0, none⟩ 1 1 [.int κ y] hx rfl (World.news_of_block (cs := #[.int κ y]) hblk) (by simp [Value.oneCell'])
    (by omega) (by unfold maxLen; omega) (by have : (n + 1) * bytes ≤ 1000001 * 8 := Nat.mul_le_mul (by omega) (by omega); omega) hbase H hH ?_
  intro g cap w1 hown1
  exact h g cap w1 (by unfold Own; simpa using hown1)

/-- make. -/
theorem wpList_makeK (E : Elem e st κ bytes) {ops : Array Oper} {rest : List Oper} {o : Oper} {a : Act} {Q : Exit → Act → World → Prop} (w : World) (hg : o.guard = none) (l c : Operand) (hop : o.op = Op.makeSlice st l c)
    (base : Nat) (L C : Int) (n : Nat) (hl : a.eval l = .int .i64 L) (hc : a.eval c = .int .i64 C) (hL : L = (n : Int)) (hC : C = (n : Int)) (hn : n ≤ 1000000) (hb : base ≤ w.heap.size)
    (hK : ∀ w', Own e κ w' base (.slice (some ⟨w.heap.size, 0, none⟩) n n) n (List.replicate n (0 : Int)) → w.grownBy w' none → wpList Tryz.prog ops Q rest (a.put o.dst (.slice (some ⟨w.heap.size, 0, none⟩) n n)) w') :
    wpList Tryz.prog ops Q (o :: rest) a w := by
  obtain ⟨i0, hi0, hz0, hz1, hz2⟩ := info_parts E.info
  have := E.small
  refine wpList_make_full _ hg l c st hop base e i0 (.int κ 0) 1 E.under hi0 hz0 hz1 .i64 .i64 L C n hl hc hL hC (by rw [hz2]; have : bytes * n ≤ 8 * 1000000 := Nat.mul_le_mul (by omega) (by omega); omega) (by unfold maxLen; omega) hb ?_
  intro w' h1
  refine hK w' ?_
  have ee : (madeCells (Value.int κ 0).cells (n * 1)).toList = (List.replicate n (0 : Int)).map (Value.int κ) := by
    rw [show (Value.int κ 0).cells = #[Value.int κ 0] from rfl, toList_madeCells_one]; simp
  unfold Own
  rw [← ee]
  exact h1
end

/-- A row that is laid as a literal. -/
theorem own_lit (e : TypeId) (κ : IntKind) (w : World) (xs : List Int) (n base : Nat) (hn : xs.length = n) (hb : base ≤ w.heap.size) (hl : n ≤ 1000) : Own e κ (w.alloc (.cells (xs.map (Value.int κ)).toArray e)) base (.slice (some ⟨w.heap.size, 0, none⟩) n n) n xs := by
  have := World.ownsRow_lit (base := base) (e := e) (size := 1) w (xs.map (Value.int κ)).toArray n hb (by unfold maxLen; omega) (by simp [hn])
  exact this
/-- A part of an owned row, from its beginning. -/
theorem Own.take {e : TypeId} {κ : IntKind} {w : World} {base n g cap : Nat} {xs : List Int} (h : Own e κ w base (.slice (some ⟨g, 0, none⟩) n cap) n xs) (m : Nat) (hm : m ≤ n) :
    Own e κ w base (.slice (some ⟨g, 0, none⟩) m cap) m (xs.take m) := by
  have hl := h.len
  refine ⟨by simp; omega, ?_⟩
  rcases h.2 with ⟨h', _⟩ | ⟨g', cap', cur, e1, e2, e3, e4, e5, e6, e7⟩
  · cases h'
  · cases e1
    refine .inr ⟨g, cap, cur, rfl, e2, e3, by omega, e5, e6, ?_⟩
    rw [List.map_take, ← e7, List.take_take, Nat.min_eq_left (by omega), Nat.mul_one]
theorem Own.capLe {e : TypeId} {κ : IntKind} {w : World} {base n g cap : Nat} {xs : List Int} (h : Own e κ w base (.slice (some ⟨g, 0, none⟩) n cap) n xs) : n ≤ cap ∧ cap ≤ maxLen := by
  rcases h.2 with ⟨h', _⟩ | ⟨g', cap', cur, e1, e2, e3, e4, e5, e6, e7⟩
  · cases h'
  · cases e1; exact ⟨e4, e5⟩
theorem SlI.lieA {κ : IntKind} {w : World} {v : Value} {xs : List Int} (h : SlI κ w v xs) {n : Nat} (hn : xs.length = n) : ∃ A c, v = .slice A n c ∧ n ≤ c ∧ c ≤ maxLen ∧ (A = none → c = 0) ∧ Ints κ w A xs := by
  subst hn
  exact h
end Go.Proofs.YtklngjjokbhfpaaGreatDoor
