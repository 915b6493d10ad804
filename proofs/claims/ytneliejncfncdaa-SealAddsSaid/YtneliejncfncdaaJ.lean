/- Words for a slice of rows, and the plain model of seal's solve. No program in sight. -/
import Derived.Test.YtneliejncfncdaaW
namespace Go.Proofs.Ytneliejncfncdaa
open Go.RowKit

/-- The value x is a row of numbers whose block is none of X. -/
def RowAt (w : World) (X : List Nat) (x : Value) (r : List Int) : Prop :=
  ∃ b off c, x = .slice (some ⟨b, off, none⟩) r.length c ∧ b ∉ X ∧ b < w.heap.size ∧ Ints w (some ⟨b, off, none⟩) r

/-- Block R holds the rows rs. -/
def Mat (w : World) (X : List Nat) (R cap : Nat) (rs : List (List Int)) : Prop :=
  R ∈ X ∧ rs.length ≤ cap ∧ cap ≤ maxLen ∧ ∃ cur : Array Value, w.heap[R]? = some (.cells cur 22 (0, 0)) ∧ cur.size = cap ∧ ∀ (i : Nat) (r : List Int), rs[i]? = some r → ∃ x, cur[i]? = some x ∧ RowAt w X x r

section
variable {w : World} {X : List Nat} {R cap : Nat} {rs : List (List Int)}

theorem RowAt.fr {w' : World} {S : List Nat} {x : Value} {r : List Int} (h : RowAt w X x r) (hf : Fr S w w') (hS : ∀ k ∈ S, k < w.heap.size → k ∈ X) : RowAt w' X x r := by
  obtain ⟨b, off, c, hx, hb, hlt, hi⟩ := h
  exact ⟨b, off, c, hx, hb, Nat.lt_of_lt_of_le hlt hf.size, At.fr hi hf (fun a ha hm => by cases ha; exact hb (hS _ hm hlt))⟩

theorem RowAt.mono {Y : List Nat} {x : Value} {r : List Int} (h : RowAt w X x r) (hY : ∀ k, k < w.heap.size → k ∈ Y → k ∈ X) : RowAt w Y x r := by
  obtain ⟨b, off, c, hx, hb, hlt, hi⟩ := h
  exact ⟨b, off, c, hx, fun hm => hb (hY b hlt hm), hlt, hi⟩

theorem Mat.lt (h : Mat w X R cap rs) : R < w.heap.size := by
  obtain ⟨_, _, _, cur, hc, _⟩ := h
  rcases Nat.lt_or_ge R w.heap.size with hlt | hge
  · exact hlt
  · rw [Array.getElem?_eq_none hge] at hc; cases hc

theorem Mat.get (h : Mat w X R cap rs) {i : Nat} {r : List Int} (hi : rs[i]? = some r) :
    ∃ b off c, w.cell? ⟨R, i, none⟩ = some (.slice (some ⟨b, off, none⟩) r.length c) ∧ b ∉ X ∧ b < w.heap.size ∧ Ints w (some ⟨b, off, none⟩) r := by
  obtain ⟨_, _, _, cur, hc, hs, ha⟩ := h
  obtain ⟨x, hx, b, off, c, rfl, hb, hlt, hn⟩ := ha i r hi
  exact ⟨b, off, c, by rw [cell_of_row w R i cur 22 (0, 0) hc]; exact hx, hb, hlt, hn⟩

theorem Mat.rowAt (h : Mat w X R cap rs) {i : Nat} {r : List Int} (hi : rs[i]? = some r) {x : Value} (hx : w.cell? ⟨R, i, none⟩ = some x) : RowAt w X x r := by
  obtain ⟨_, _, _, cur, hc, hs, ha⟩ := h
  obtain ⟨y, hy, hr⟩ := ha i r hi
  rw [cell_of_row w R i cur 22 (0, 0) hc, hy] at hx
  cases hx
  exact hr

theorem Mat.frozen (h : Mat w X R cap rs) (i : Nat) : w.frozen? ⟨R, i, none⟩ = false := by
  obtain ⟨_, _, _, cur, hc, _⟩ := h
  exact frozen_of_row w R i cur 22 hc

theorem Mat.fr {w' : World} {S : List Nat} (h : Mat w X R cap rs) (hf : Fr S w w') (hS : ∀ k ∈ S, k < w.heap.size → k ∈ X) (hR : R ∉ S) : Mat w' X R cap rs := by
  have hlt := h.lt
  obtain ⟨h1, h2, h3, cur, hc, hs, ha⟩ := h
  refine ⟨h1, h2, h3, cur, (hf.block R hlt hR).trans hc, hs, fun i r hi => ?_⟩
  obtain ⟨x, hx, hr⟩ := ha i r hi
  exact ⟨x, hx, hr.fr hf hS⟩

theorem Mat.below {w' : World} (h : Mat w X R cap rs) (hb : Below w.heap.size w w') : Mat w' X R cap rs := h.fr (fr_of_below hb []) (by simp) (by simp)

theorem Mat.mono {Y : List Nat} (h : Mat w X R cap rs) (hY : ∀ k, k < w.heap.size → k ∈ Y → k ∈ X) (hR : R ∈ Y) : Mat w Y R cap rs := by
  obtain ⟨h1, h2, h3, cur, hc, hs, ha⟩ := h
  refine ⟨hR, h2, h3, cur, hc, hs, fun i r hi => ?_⟩
  obtain ⟨x, hx, hr⟩ := ha i r hi
  exact ⟨x, hx, hr.mono hY⟩

theorem Mat.drew (h : Mat w X R cap rs) : Mat w.drew X R cap rs := h
theorem Mat.drewN (h : Mat w X R cap rs) (n : Nat) : Mat (w.drewN n) X R cap rs := h

theorem Mat.set (h : Mat w X R cap rs) {x : Value} {r : List Int} (hx : RowAt w X x r) {i : Nat} (hi : i < rs.length) : Mat (w.setCell ⟨R, i, none⟩ x) X R cap (rs.set i r) := by
  obtain ⟨h1, h2, h3, cur, hc, hs, ha⟩ := h
  have hf : Fr [R] w (w.setCell ⟨R, i, none⟩ x) := (Fr.refl _ _).set _ (.inl (by simp)) _
  refine ⟨h1, by simpa using h2, h3, cur.setIfInBounds i x, heap_setCell_same w R i cur 22 x hc, by simpa using hs, fun j s hj => ?_⟩
  by_cases e : j = i
  · subst e
    rw [List.getElem?_set_self hi] at hj
    cases hj
    exact ⟨x, by rw [Array.getElem?_setIfInBounds_self_of_lt (by omega)], hx.fr hf (by simp [h1])⟩
  · rw [List.getElem?_set_ne (Ne.symm e)] at hj
    obtain ⟨y, hy, hr⟩ := ha j s hj
    exact ⟨y, by rw [Array.getElem?_setIfInBounds_ne (Ne.symm e)]; exact hy, hr.fr hf (by simp [h1])⟩
end

/-- A slice of numbers whose block is new is a row. -/
theorem rowAt_own {w : World} {B : Nat} {v : Value} {r : List Int} (h : OwnI w B v r.length r) (hne : 0 < r.length) (X : List Nat) (hX : ∀ k ∈ X, k < B) : RowAt w X v r := by
  obtain ⟨g, cap, rfl, hg, hlt⟩ := h.form hne
  refine ⟨g, 0, cap, rfl, fun hm => by have := hX g hm; omega, hlt, ?_⟩
  obtain ⟨A, c, hv, _, _, _, hA⟩ := h.sli
  cases hv
  exact hA

/-! ### The model of solve -/
/-- A row times a number. -/
def scale (q : Int) (r : List Int) (n : Int) : List Int := (List.range r.length).map fun j => r.getD j 0 * n % q
/-- A row less another. -/
def less (q : Int) (r s : List Int) : List Int := (List.range r.length).map fun j => (r.getD j 0 - s.getD j 0) % q

/-- The element of row i and column j. -/
def el (rs : List (List Int)) (i j : Nat) : Int := (rs.getD i []).getD j 0

/-- The first row from k on, of fuel n, whose element in a column is not 0. -/
def pivot (rs : List (List Int)) (col : Nat) : Nat → Nat → Nat
  | 0, k => k
  | n + 1, k => if el rs k col = 0 then pivot rs col n (k + 1) else k

/-- All rows but one are cleared in a column: the first k of them. -/
def cleared (q : Int) (col done : Nat) (rs : List (List Int)) : Nat → List (List Int)
  | 0 => rs
  | k + 1 => if k = done ∨ el (cleared q col done rs k) k col = 0 then cleared q col done rs k
    else (cleared q col done rs k).set k (less q ((cleared q col done rs k).getD k []) (scale q ((cleared q col done rs k).getD done []) (el (cleared q col done rs k) k col)))

/-- Two rows are exchanged, and the first is scaled. -/
def swapped (rs : List (List Int)) (i j : Nat) : List (List Int) := (rs.set i (rs.getD j [])).set j (rs.getD i [])

structure St where
  rs : List (List Int)
  lead : List Int
  done : Nat

def norm (pwf : Int → Int) (q : Int) (col : Nat) (rs : List (List Int)) (done : Nat) : List (List Int) :=
  rs.set done (scale q (rs.getD done []) (pwf (el rs done col)))

/-- One column is done. pwf: the inverse. -/
def step (pwf : Int → Int) (q : Int) (st : St) (col : Nat) : St :=
  let k := pivot st.rs col (st.rs.length - st.done) st.done
  if k = st.rs.length then st
  else { rs := cleared q col st.done (norm pwf q col (swapped st.rs st.done k) st.done) st.rs.length, lead := st.lead.set col (st.done + 1), done := st.done + 1 }

def steps (pwf : Int → Int) (q : Int) (rs : List (List Int)) (u : Nat) : Nat → St
  | 0 => { rs := rs, lead := List.replicate u 0, done := 0 }
  | k + 1 => step pwf q (steps pwf q rs u k) k

/-- The solution that is read off. -/
def outOf (st : St) (u : Nat) : List Int := (List.range u).map fun j => if 0 < st.lead.getD j 0 then el st.rs (st.lead.getD j 0 - 1).toNat u else 0

def okOf (st : St) (u : Nat) : Bool := (List.range st.rs.length).all fun i => decide (i < st.done) || decide (el st.rs i u = 0)

/-- All rows have n elements of the field. -/
def Good (q : Int) (n : Nat) (rs : List (List Int)) : Prop := ∀ (i : Nat) (r : List Int), rs[i]? = some r → r.length = n ∧ ∀ (j : Nat) (x : Int), r[j]? = some x → 0 ≤ x ∧ x < q

section
variable {q : Int} {n : Nat} {rs : List (List Int)}
theorem scale_length (q : Int) (r : List Int) (n : Int) : (scale q r n).length = r.length := by simp [scale]
theorem less_length (q : Int) (r s : List Int) : (less q r s).length = r.length := by simp [less]
theorem Good.set (h : Good q n rs) {r : List Int} (hl : r.length = n) (hr : ∀ (j : Nat) (x : Int), r[j]? = some x → 0 ≤ x ∧ x < q) (i : Nat) : Good q n (rs.set i r) := by
  intro j s hj
  rw [List.getElem?_set] at hj
  split at hj
  · split at hj
    · cases hj; exact ⟨hl, hr⟩
    · cases hj
  · exact h j s hj
theorem Good.row (h : Good q n rs) {i : Nat} (hi : i < rs.length) : (rs.getD i []).length = n := by
  have := h i (rs[i]) (by simp [hi])
  simpa [List.getD, hi] using this.1
theorem Good.get (h : Good q n rs) {i : Nat} (hi : i < rs.length) : rs[i]? = some (rs.getD i []) := by simp [List.getD, hi]
theorem scale_elem (hq : 1 ≤ q) (r : List Int) (m : Int) : ∀ (j : Nat) (x : Int), (scale q r m)[j]? = some x → 0 ≤ x ∧ x < q := by
  intro j x hx
  simp only [scale, List.getElem?_map] at hx
  obtain ⟨y, _, rfl⟩ := Option.map_eq_some_iff.1 hx
  exact ⟨Int.emod_nonneg _ (by omega), Int.emod_lt_of_pos _ (by omega)⟩
theorem less_elem (hq : 1 ≤ q) (r s : List Int) : ∀ (j : Nat) (x : Int), (less q r s)[j]? = some x → 0 ≤ x ∧ x < q := by
  intro j x hx
  simp only [less, List.getElem?_map] at hx
  obtain ⟨y, _, rfl⟩ := Option.map_eq_some_iff.1 hx
  exact ⟨Int.emod_nonneg _ (by omega), Int.emod_lt_of_pos _ (by omega)⟩
theorem Good.el (h : Good q n rs) (hq : 1 ≤ q) (i j : Nat) : 0 ≤ el rs i j ∧ el rs i j < q := by
  unfold Ytneliejncfncdaa.el
  simp only [List.getD]
  cases hi : rs[i]? with
  | none => simp; omega
  | some r =>
    simp only [Option.getD_some]
    cases hj : r[j]? with
    | none => simp; omega
    | some x => exact (h i r hi).2 j x hj
theorem Good.scaled (h : Good q n rs) (hq : 1 ≤ q) {i : Nat} (hi : i < rs.length) (m : Int) (k : Nat) : Good q n (rs.set k (scale q (rs.getD i []) m)) :=
  h.set (by rw [scale_length, h.row hi]) (scale_elem hq _ _) k
theorem Good.swapped (h : Good q n rs) {i j : Nat} (hi : i < rs.length) (hj : j < rs.length) : Good q n (swapped rs i j) :=
  (h.set (h.row hj) (h j _ (h.get hj)).2 i).set (h.row hi) (h i _ (h.get hi)).2 j
theorem swapped_length (rs : List (List Int)) (i j : Nat) : (swapped rs i j).length = rs.length := by simp [Ytneliejncfncdaa.swapped]
theorem norm_length (pwf : Int → Int) (q : Int) (col : Nat) (rs : List (List Int)) (done : Nat) : (norm pwf q col rs done).length = rs.length := by simp [norm]
theorem cleared_length (q : Int) (col done : Nat) (rs : List (List Int)) : ∀ k, (cleared q col done rs k).length = rs.length
  | 0 => rfl
  | k + 1 => by
    rw [cleared]
    split
    · exact cleared_length q col done rs k
    · rw [List.length_set]; exact cleared_length q col done rs k
theorem Good.cleared (h : Good q n rs) (hq : 1 ≤ q) (col done : Nat) : ∀ k, k ≤ rs.length → Good q n (cleared q col done rs k)
  | 0, _ => h
  | k + 1, hk => by
    have ih := Good.cleared h hq col done k (by omega)
    rw [Ytneliejncfncdaa.cleared]
    split
    · exact ih
    · exact ih.set (by rw [less_length, ih.row (by rw [cleared_length]; omega)]) (less_elem hq _ _) k
theorem pivot_le (rs : List (List Int)) (col : Nat) : ∀ n k, k ≤ pivot rs col n k ∧ pivot rs col n k ≤ k + n
  | 0, k => by simp [pivot]
  | n + 1, k => by
    rw [pivot]
    split
    · have := pivot_le rs col n (k + 1); omega
    · omega
theorem pivot_ne (rs : List (List Int)) (col : Nat) : ∀ n k, pivot rs col n k < k + n → el rs (pivot rs col n k) col ≠ 0
  | 0, k => by simp [pivot]
  | n + 1, k => by
    rw [pivot]
    split
    · intro h; exact pivot_ne rs col n (k + 1) (by omega)
    · rename_i h; intro _; exact h
theorem pivot_zero (rs : List (List Int)) (col : Nat) : ∀ n k j, k ≤ j → j < pivot rs col n k → el rs j col = 0
  | 0, k, j => by simp [pivot]; omega
  | n + 1, k, j => by
    rw [pivot]
    split
    · rename_i h
      intro h1 h2
      by_cases e : j = k
      · subst e; exact h
      · exact pivot_zero rs col n (k + 1) j (by omega) h2
    · intro h1 h2; omega
end
/-- The first k of n elements are given by f, the others are 0. -/
def fillTo (f : Nat → Int) (n k : Nat) : List Int := (List.range n).map fun i => if i < k then f i else 0
theorem fillTo_length (f : Nat → Int) (n k : Nat) : (fillTo f n k).length = n := by simp [fillTo]
theorem fillTo_zero (f : Nat → Int) (n : Nat) : fillTo f n 0 = List.replicate n 0 := by
  refine List.ext_getElem (by simp [fillTo]) fun i h1 h2 => ?_
  simp [fillTo]
theorem fillTo_set (f : Nat → Int) (n k : Nat) : (fillTo f n k).set k (f k) = fillTo f n (k + 1) := by
  refine List.ext_getElem (by simp [fillTo]) fun i h1 h2 => ?_
  simp only [fillTo, List.getElem_set, List.getElem_map, List.getElem_range]
  by_cases e : k = i
  · subst e; simp
  · rw [if_neg e]
    by_cases h : i < k
    · rw [if_pos h, if_pos (by omega)]
    · rw [if_neg h, if_neg (by omega)]
theorem fillTo_skip (f : Nat → Int) (n k : Nat) (h : f k = 0) : fillTo f n k = fillTo f n (k + 1) := by
  refine List.ext_getElem (by simp [fillTo]) fun i h1 h2 => ?_
  simp only [fillTo, List.getElem_map, List.getElem_range]
  by_cases e : k = i
  · subst e; simp [h]
  · by_cases h : i < k
    · rw [if_pos h, if_pos (by omega)]
    · rw [if_neg h, if_neg (by omega)]
theorem fillTo_all (f : Nat → Int) (n : Nat) : fillTo f n n = (List.range n).map f := by
  refine List.ext_getElem (by simp [fillTo]) fun i h1 h2 => ?_
  simp only [fillTo, List.getElem_map, List.getElem_range]
  rw [if_pos (by simpa [fillTo] using h1)]

theorem okOf_true {st : St} {u : Nat} (h : ∀ i, st.done ≤ i → i < st.rs.length → el st.rs i u = 0) : okOf st u = true := by
  unfold okOf
  rw [List.all_eq_true]
  intro i hi
  by_cases hd : i < st.done
  · simp [hd]
  · simp [h i (by omega) (by simpa using hi)]
theorem okOf_false {st : St} {u i : Nat} (h1 : st.done ≤ i) (h2 : i < st.rs.length) (h : el st.rs i u ≠ 0) : okOf st u = false := by
  unfold okOf
  rw [List.all_eq_false]
  exact ⟨i, by simpa using h2, by simp [h]; omega⟩
theorem okOf_el {st : St} {u i : Nat} (h : okOf st u = true) (h1 : st.done ≤ i) (h2 : i < st.rs.length) : el st.rs i u = 0 := by
  unfold okOf at h
  rw [List.all_eq_true] at h
  have := h i (by simpa using h2)
  simp at this
  omega
end Go.Proofs.Ytneliejncfncdaa
