/- Rows of booleans, rows of such rows; what is said, step by step. -/
import Derived.Test.YtobpacebpiabcaaDoorPkBo
import Derived.OwnWalk
namespace Go.Proofs.YtobpacebpiabcaaDoor
open Go.RowKit Go.Lib

/-- A row of booleans of the call's own. -/
def BoolO (w : World) (base : Nat) (v : Value) (l : List Bool) : Prop := w.ownsRow base 4 1 v l.length (l.map Value.bool)
/-- The booleans l, in a block that is not nb. -/
def BoolN (nb : Option Nat) (w : World) (v : Value) (l : List Bool) : Prop := ∃ A c, v = .slice A l.length c ∧ l.length ≤ c ∧ c ≤ maxLen ∧ (A = none → c = 0) ∧ (l = [] ∨ ∃ b off, A = some ⟨b, off, none⟩ ∧ nb ≠ some b ∧ b < w.heap.size ∧ ∀ j v, (l.map Value.bool)[j]? = some v → w.cell? ⟨b, off + j, none⟩ = some v)
def BoolV (w : World) (v : Value) (l : List Bool) : Prop := BoolN none w v l
theorem BoolN.grown {nb nb' : Option Nat} {w w' : World} {v : Value} {l : List Bool} (h : BoolN nb w v l) (hg : w.grownBy w' nb) (hn : ∀ b, b < w.heap.size → nb ≠ some b → nb' ≠ some b) : BoolN nb' w' v l := by
  obtain ⟨A, c, h1, h2, h3, h4, h5⟩ := h
  refine ⟨A, c, h1, h2, h3, h4, ?_⟩
  rcases h5 with rfl | ⟨b, off, hA, hne, hb, hc⟩
  · exact .inl rfl
  · exact .inr ⟨b, off, hA, hn b hb hne, Nat.lt_of_lt_of_le hb hg.size, fun j u hj => (World.cell?_of_block (hg.block b hb (Ne.symm hne))).trans (hc j u hj)⟩
theorem BoolN.below {nb : Option Nat} {w w' : World} {v : Value} {l : List Bool} (h : BoolN nb w v l) (hb : Below w.heap.size w w') : BoolN nb w' v l := by
  obtain ⟨A, c, h1, h2, h3, h4, h5⟩ := h
  refine ⟨A, c, h1, h2, h3, h4, ?_⟩
  rcases h5 with rfl | ⟨b, off, hA, hne, hlt, hc⟩
  · exact .inl rfl
  · exact .inr ⟨b, off, hA, hne, Nat.lt_of_lt_of_le hlt hb.size, fun j u hj => (hb.cell hlt).trans (hc j u hj)⟩
theorem BoolO.boolN {w : World} {base : Nat} {v : Value} {l : List Bool} (h : BoolO w base v l) {nb : Option Nat} (hn : ∀ b, base ≤ b → nb ≠ some b) : BoolN nb w v l := by
  rcases h.2 with ⟨h1, h2⟩ | ⟨g, cap, cur, h1, h2, h3, h4, h5, h6, h7⟩
  · have : l = [] := List.eq_nil_of_length_eq_zero h2
    subst this
    exact ⟨none, 0, h1, Nat.le_refl _, by unfold maxLen; omega, fun _ => rfl, .inl rfl⟩
  · refine ⟨_, cap, h1, h4, h5, (fun e => by cases e), .inr ⟨g, 0, rfl, hn g h2, (Array.getElem?_eq_some_iff.1 h3).1, fun j u hj => ?_⟩⟩
    have := World.ownsRow.cells h (g := g) (by rw [h1]; rfl) j u hj
    rw [Addr.add_lit] at this
    exact this
theorem BoolO.boolV {w : World} {base : Nat} {v : Value} {l : List Bool} (h : BoolO w base v l) : BoolV w v l := h.boolN (fun _ _ => by simp)
/-- Boolean j of the row. -/
theorem BoolN.get {nb : Option Nat} {w : World} {v : Value} {l : List Bool} (h : BoolN nb w v l) {j : Nat} (hj : j < l.length) : ∃ b off c, v = .slice (some ⟨b, off, none⟩) l.length c ∧ b < w.heap.size ∧ ∀ i, i < l.length → w.cell? ⟨b, off + i, none⟩ = some (.bool (l.getD i false)) := by
  obtain ⟨A, c, h1, h2, h3, h4, h5⟩ := h
  rcases h5 with rfl | ⟨b, off, rfl, hne, hb, hc⟩
  · simp at hj
  · refine ⟨b, off, c, h1, hb, fun i hi => hc i _ ?_⟩
    rw [List.getElem?_map, List.getElem?_eq_getElem hi, List.getD_eq_getElem?_getD, List.getElem?_eq_getElem hi]
    rfl
theorem info_bool : (Tryd.prog.info? 4).map (fun i => (i.zero, i.size, i.bytes)) = some (some (.bool false), 1, 1) := by kernel_rfl
theorem info_bools : (Tryd.prog.info? 29).map (fun i => (i.zero, i.size, i.bytes)) = some (some (.slice none 0 0), 1, 24) := by kernel_rfl
/-- make([]bool, n). -/
theorem wpList_makeB {ops : Array Oper} {rest : List Oper} {o : Oper} {a : Act} {Q : Exit → Act → World → Prop} (w : World) (hg : o.guard = none) (l c : Operand) (hop : o.op = Op.makeSlice 29 l c)
    (base : Nat) (L C : Int) (n : Nat) (hl : a.eval l = .int .i64 L) (hc : a.eval c = .int .i64 C) (hL : L = (n : Int)) (hC : C = (n : Int)) (hn : n ≤ 1000000) (hb : base ≤ w.heap.size)
    (hK : ∀ w', w'.ownsRow base 4 1 (.slice (some ⟨w.heap.size, 0, none⟩) n n) n (List.replicate n (.bool false)) → w.grownBy w' none → wpList Tryd.prog ops Q rest (a.put o.dst (.slice (some ⟨w.heap.size, 0, none⟩) n n)) w') :
    wpList Tryd.prog ops Q (o :: rest) a w := by
  obtain ⟨i0, hi0, hz0, hz1, hz2⟩ := info_parts info_bool
  refine wpList_make_full _ hg l c 29 hop base 4 i0 (.bool false) 1 Tryd.underlying29 hi0 hz0 hz1 .i64 .i64 L C n hl hc hL hC (by rw [hz2]; omega) (by unfold maxLen; omega) hb ?_
  intro w' h1
  refine hK w' ?_
  have ee : (madeCells (Value.bool false).cells (n * 1)).toList = List.replicate n (.bool false) := by
    rw [show (Value.bool false).cells = #[Value.bool false] from rfl, toList_madeCells_one]; simp
  rw [← ee]
  exact h1
/-- A row of rows. -/
def OwnBR (w : World) (base : Nat) (v : Value) (rows : List (List Bool)) : Prop :=
  ∃ us, us.length = rows.length ∧ w.ownsRow base 29 1 v rows.length us ∧ ∀ k u, us[k]? = some u → BoolN v.ownBlock w u (rows.getD k [])
theorem OwnBR.nil (w : World) (base : Nat) : OwnBR w base (.slice none 0 0) [] := ⟨[], rfl, World.ownsRow_nil _ _ _ _, fun i u h => by simp at h⟩
theorem OwnBR.below {w w' : World} {base : Nat} {v : Value} {rows : List (List Bool)} (h : OwnBR w base v rows) (hb : Below w.heap.size w w') : OwnBR w' base v rows := by
  obtain ⟨us, h1, h2, h3⟩ := h
  refine ⟨us, h1, ⟨h2.1, ?_⟩, fun k u hk => (h3 k u hk).below hb⟩
  rcases h2.2 with h' | ⟨g, cap, cur, h1, h2, h3, h4⟩
  · exact .inl h'
  · exact .inr ⟨g, cap, cur, h1, h2, (hb.block g (Array.getElem?_eq_some_iff.1 h3).1).trans h3, h4⟩
theorem OwnBR.more {w w' : World} {base : Nat} {v : Value} {rows : List (List Bool)} {g cap : Nat} {u : Value} {r : List Bool} (us : List Value) (h1 : us.length = rows.length) (h3 : ∀ k u, us[k]? = some u → BoolN v.ownBlock w u (rows.getD k [])) (hu : BoolN v.ownBlock w u r)
    (hown : w'.ownsRow base 29 1 (.slice (some ⟨g, 0, none⟩) (rows.length + 1) cap) (rows.length + 1) (us ++ #[u].toList)) (hg : w.grownBy w' v.ownBlock) (hgb : v.ownBlock = some g ∨ g = w.heap.size) : OwnBR w' base (.slice (some ⟨g, 0, none⟩) (rows.length + 1) cap) (rows ++ [r]) := by
  have hn : ∀ b, b < w.heap.size → v.ownBlock ≠ some b → (Value.slice (some ⟨g, 0, none⟩) (rows.length + 1) cap).ownBlock ≠ some b := fun b hb hne e => by
    have e2 : g = b := by injection e
    subst e2
    rcases hgb with h | h
    · exact hne h
    · omega
  refine ⟨us ++ [u], by simp [h1], by simpa using hown, fun k y hk => ?_⟩
  rcases Nat.lt_or_ge k us.length with hlt | hge
  · rw [List.getElem?_append_left hlt] at hk
    have e : (rows ++ [r]).getD k [] = rows.getD k [] := by
      rw [List.getD_eq_getElem?_getD, List.getD_eq_getElem?_getD, List.getElem?_append_left (by omega)]
    rw [e]; exact (h3 k y hk).grown hg hn
  · rw [List.getElem?_append_right hge] at hk
    have hk0 : k - us.length = 0 := by
      rcases Nat.eq_zero_or_pos (k - us.length) with h | h
      · exact h
      · rw [List.getElem?_eq_none (by simp; omega)] at hk; cases hk
    rw [hk0] at hk
    have : u = y := by simpa using hk
    subst this
    have e : (rows ++ [r]).getD k [] = r := by
      rw [show k = rows.length by omega, List.getD_eq_getElem?_getD, List.getElem?_append_right (Nat.le_refl _)]; simp
    rw [e]; exact hu.grown hg hn
/-- Row i of the rows, at its place. -/
theorem OwnBR.row {w : World} {base : Nat} {v : Value} {rows : List (List Bool)} (h : OwnBR w base v rows) (h0 : 0 < rows.length) : ∃ g cap, v = .slice (some ⟨g, 0, none⟩) rows.length cap ∧ g < w.heap.size ∧ ∀ i, i < rows.length → ∃ u, w.cell? ⟨g, i, none⟩ = some u ∧ BoolV w u (rows.getD i []) := by
  obtain ⟨us, h1, h2, h3⟩ := h
  obtain ⟨g, cap, hv, hb, hlt⟩ := h2.form h0
  refine ⟨g, cap, hv, hlt, fun i hi => ?_⟩
  have hu : us[i]? = some (us[i]'(by omega)) := List.getElem?_eq_getElem (by omega)
  have c0 := World.ownsRow.cells h2 (g := g) (by rw [hv]; rfl) i _ hu
  rw [Addr.add_lit] at c0
  refine ⟨_, by simpa using c0, ?_⟩
  obtain ⟨A, c, e1, e2, e3, e4, e5⟩ := h3 i _ hu
  refine ⟨A, c, e1, e2, e3, e4, ?_⟩
  rcases e5 with e | ⟨b, off, f1, f2, f3, f4⟩
  · exact .inl e
  · exact .inr ⟨b, off, f1, by simp, f3, f4⟩

/-! What is said, step by step. -/
/-- The row of what is said ahead of event j. -/
def outL (s : Nat → Bool) (n j : Nat) : List Value := (List.range n).map fun i => .bool (decide (i < j) && s i)
theorem outL_zero (s : Nat → Bool) (n : Nat) : outL s n 0 = List.replicate n (.bool false) := by
  unfold outL
  rw [List.eq_replicate_iff]
  refine ⟨by simp, fun b hb => ?_⟩
  obtain ⟨i, _, rfl⟩ := List.mem_map.1 hb
  simp
theorem outL_set (s : Nat → Bool) (n j : Nat) (hj : j < n) : (outL s n j).set j (.bool (s j)) = outL s n (j + 1) := by
  refine List.ext_getElem? fun i => ?_
  by_cases e : j = i
  · subst e
    rw [List.getElem?_set_self (by simp [outL, hj])]
    simp [outL, hj]
  · rw [List.getElem?_set_ne e]
    unfold outL
    by_cases hi : i < n
    · have : decide (i < j) = decide (i < j + 1) := by
        by_cases h : i < j
        · rw [decide_eq_true h, decide_eq_true (by omega)]
        · rw [decide_eq_false h, decide_eq_false (by omega)]
      simp [hi, this]
    · rw [List.getElem?_eq_none (by simp; omega), List.getElem?_eq_none (by simp; omega)]
theorem outL_full (s : Nat → Bool) (n : Nat) : outL s n n = ((List.range n).map s).map Value.bool := by
  unfold outL
  rw [List.map_map]
  refine List.map_congr_left fun i hi => ?_
  have : i < n := by simpa using hi
  simp [this]
theorem outL_get (s : Nat → Bool) (n j i : Nat) (hi : i < j) (hn : i < n) : (outL s n j)[i]? = some (.bool (s i)) := by
  simp [outL, hi, hn]
theorem outL_any (s : Nat → Bool) (n j : Nat) (hn : j < n) : (outL s n j)[j]? = some (.bool false) := by
  simp [outL, hn]
end Go.Proofs.YtobpacebpiabcaaDoor
