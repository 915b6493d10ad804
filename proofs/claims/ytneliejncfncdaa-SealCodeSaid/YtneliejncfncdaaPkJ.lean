/- Texts J I Lex L M in one. -/
import Derived.Test.YtneliejncfncdaaPkW
import Derived.Test.YtneliejncfncdaaPkB
import Derived.OrdersHeld
import Derived.StillTail
import Derived.Deep.RegionHeld3
namespace Go.Proofs.Ytneliejncfncdaa
open Go.RowKit

/-- The value x is a row of numbers whose block is none of X. -/
def RowAt (w : World) (X : List Nat) (x : Value) (r : List Int) : Prop :=
  ∃ b off c, x = .slice (some ⟨b, off, none⟩) r.length c ∧ b ∉ X ∧ b < w.heap.size ∧ Ints w (some ⟨b, off, none⟩) r

/-- Block R holds the rows rs. -/
def Mat (w : World) (X : List Nat) (R cap : Nat) (rs : List (List Int)) : Prop :=
  R ∈ X ∧ rs.length ≤ cap ∧ cap ≤ maxLen ∧ ∃ cur : Array Value, w.heap[R]? = some (.cells cur 22 (0, 0)) ∧ cur.size = cap ∧ ∀ (i : Nat) (r : List Int), rs[i]? = some r → ∃ x, cur[i]? = some x ∧ RowAt w X x r

section
variable {w : World} {X : List Nat} {R cap : Nat} {rs : List (List Int)}

theorem RowAt.fr {w' : World} {S : List Nat} {x : Value} {r : List Int} (h : RowAt w X x r) (hf : Fr S w w') (hS : ∀ k ∈ S, k < w.heap.size → k ∈ X) : RowAt w' X x r := by
  obtain ⟨b, off, c, hx, hb, hlt, hi⟩ := h
  exact ⟨b, off, c, hx, hb, Nat.lt_of_lt_of_le hlt hf.size, At.fr hi hf (fun a ha hm => by cases ha; exact hb (hS _ hm hlt))⟩

theorem RowAt.mono {Y : List Nat} {x : Value} {r : List Int} (h : RowAt w X x r) (hY : ∀ k, k < w.heap.size → k ∈ Y → k ∈ X) : RowAt w Y x r := by
  obtain ⟨b, off, c, hx, hb, hlt, hi⟩ := h
  exact ⟨b, off, c, hx, fun hm => hb (hY b hlt hm), hlt, hi⟩

theorem Mat.lt (h : Mat w X R cap rs) : R < w.heap.size := by
  obtain ⟨_, _, _, cur, hc, _⟩ := h
  rcases Nat.lt_or_ge R w.heap.size with hlt | hge
  · exact hlt
  · rw [Array.getElem?_eq_none hge] at hc; cases hc

theorem Mat.get (h : Mat w X R cap rs) {i : Nat} {r : List Int} (hi : rs[i]? = some r) :
    ∃ b off c, w.cell? ⟨R, i, none⟩ = some (.slice (some ⟨b, off, none⟩) r.length c) ∧ b ∉ X ∧ b < w.heap.size ∧ Ints w (some ⟨b, off, none⟩) r := by
  obtain ⟨_, _, _, cur, hc, hs, ha⟩ := h
  obtain ⟨x, hx, b, off, c, rfl, hb, hlt, hn⟩ := ha i r hi
  exact ⟨b, off, c, by rw [cell_of_row w R i cur 22 (0, 0) hc]; exact hx, hb, hlt, hn⟩

theorem Mat.rowAt (h : Mat w X R cap rs) {i : Nat} {r : List Int} (hi : rs[i]? = some r) {x : Value} (hx : w.cell? ⟨R, i, none⟩ = some x) : RowAt w X x r := by
  obtain ⟨_, _, _, cur, hc, hs, ha⟩ := h
  obtain ⟨y, hy, hr⟩ := ha i r hi
  rw [cell_of_row w R i cur 22 (0, 0) hc, hy] at hx
  cases hx
  exact hr

theorem Mat.frozen (h : Mat w X R cap rs) (i : Nat) : w.frozen? ⟨R, i, none⟩ = false := by
  obtain ⟨_, _, _, cur, hc, _⟩ := h
  exact frozen_of_row w R i cur 22 hc

theorem Mat.fr {w' : World} {S : List Nat} (h : Mat w X R cap rs) (hf : Fr S w w') (hS : ∀ k ∈ S, k < w.heap.size → k ∈ X) (hR : R ∉ S) : Mat w' X R cap rs := by
  have hlt := h.lt
  obtain ⟨h1, h2, h3, cur, hc, hs, ha⟩ := h
  refine ⟨h1, h2, h3, cur, (hf.block R hlt hR).trans hc, hs, fun i r hi => ?_⟩
  obtain ⟨x, hx, hr⟩ := ha i r hi
  exact ⟨x, hx, hr.fr hf hS⟩

theorem Mat.below {w' : World} (h : Mat w X R cap rs) (hb : Below w.heap.size w w') : Mat w' X R cap rs := h.fr (fr_of_below hb []) (by simp) (by simp)

theorem Mat.mono {Y : List Nat} (h : Mat w X R cap rs) (hY : ∀ k, k < w.heap.size → k ∈ Y → k ∈ X) (hR : R ∈ Y) : Mat w Y R cap rs := by
  obtain ⟨h1, h2, h3, cur, hc, hs, ha⟩ := h
  refine ⟨hR, h2, h3, cur, hc, hs, fun i r hi => ?_⟩
  obtain ⟨x, hx, hr⟩ := ha i r hi
  exact ⟨x, hx, hr.mono hY⟩

theorem Mat.drew (h : Mat w X R cap rs) : Mat w.drew X R cap rs := h
theorem Mat.drewN (h : Mat w X R cap rs) (n : Nat) : Mat (w.drewN n) X R cap rs := h

theorem Mat.set (h : Mat w X R cap rs) {x : Value} {r : List Int} (hx : RowAt w X x r) {i : Nat} (hi : i < rs.length) : Mat (w.setCell ⟨R, i, none⟩ x) X R cap (rs.set i r) := by
  obtain ⟨h1, h2, h3, cur, hc, hs, ha⟩ := h
  have hf : Fr [R] w (w.setCell ⟨R, i, none⟩ x) := (Fr.refl _ _).set _ (.inl (by simp)) _
  refine ⟨h1, by simpa using h2, h3, cur.setIfInBounds i x, heap_setCell_same w R i cur 22 x hc, by simpa using hs, fun j s hj => ?_⟩
  by_cases e : j = i
  · subst e
    rw [List.getElem?_set_self hi] at hj
    cases hj
    exact ⟨x, by rw [Array.getElem?_setIfInBounds_self_of_lt (by omega)], hx.fr hf (by simp [h1])⟩
  · rw [List.getElem?_set_ne (Ne.symm e)] at hj
    obtain ⟨y, hy, hr⟩ := ha j s hj
    exact ⟨y, by rw [Array.getElem?_setIfInBounds_ne (Ne.symm e)]; exact hy, hr.fr hf (by simp [h1])⟩
end

/-- A slice of numbers whose block is new is a row. -/
theorem rowAt_own {w : World} {B : Nat} {v : Value} {r : List Int} (h : OwnI w B v r.length r) (hne : 0 < r.length) (X : List Nat) (hX : ∀ k ∈ X, k < B) : RowAt w X v r := by
  obtain ⟨g, cap, rfl, hg, hlt⟩ := h.form hne
  refine ⟨g, 0, cap, rfl, fun hm => by have := hX g hm; omega, hlt, ?_⟩
  obtain ⟨A, c, hv, _, _, _, hA⟩ := h.sli
  cases hv
  exact hA

/-! ### The model of solve -/
/-- A row times a number. -/
def scale (q : Int) (r : List Int) (n : Int) : List Int := (List.range r.length).map fun j => r.getD j 0 * n % q
/-- A row less another. -/
def less (q : Int) (r s : List Int) : List Int := (List.range r.length).map fun j => (r.getD j 0 - s.getD j 0) % q

/-- The element of row i and column j. -/
def el (rs : List (List Int)) (i j : Nat) : Int := (rs.getD i []).getD j 0

/-- The first row from k on, of fuel n, whose element in a column is not 0. -/
def pivot (rs : List (List Int)) (col : Nat) : Nat → Nat → Nat
  | 0, k => k
  | n + 1, k => if el rs k col = 0 then pivot rs col n (k + 1) else k

/-- All rows but one are cleared in a column: the first k of them. -/
def cleared (q : Int) (col done : Nat) (rs : List (List Int)) : Nat → List (List Int)
  | 0 => rs
  | k + 1 => if k = done ∨ el (cleared q col done rs k) k col = 0 then cleared q col done rs k
    else (cleared q col done rs k).set k (less q ((cleared q col done rs k).getD k []) (scale q ((cleared q col done rs k).getD done []) (el (cleared q col done rs k) k col)))

/-- Two rows are exchanged, and the first is scaled. -/
def swapped (rs : List (List Int)) (i j : Nat) : List (List Int) := (rs.set i (rs.getD j [])).set j (rs.getD i [])

structure St where
  rs : List (List Int)
  lead : List Int
  done : Nat

def norm (pwf : Int → Int) (q : Int) (col : Nat) (rs : List (List Int)) (done : Nat) : List (List Int) :=
  rs.set done (scale q (rs.getD done []) (pwf (el rs done col)))

/-- One column is done. pwf: the inverse. -/
def step (pwf : Int → Int) (q : Int) (st : St) (col : Nat) : St :=
  let k := pivot st.rs col (st.rs.length - st.done) st.done
  if k = st.rs.length then st
  else { rs := cleared q col st.done (norm pwf q col (swapped st.rs st.done k) st.done) st.rs.length, lead := st.lead.set col (st.done + 1), done := st.done + 1 }

def steps (pwf : Int → Int) (q : Int) (rs : List (List Int)) (u : Nat) : Nat → St
  | 0 => { rs := rs, lead := List.replicate u 0, done := 0 }
  | k + 1 => step pwf q (steps pwf q rs u k) k

/-- The solution that is read off. -/
def outOf (st : St) (u : Nat) : List Int := (List.range u).map fun j => if 0 < st.lead.getD j 0 then el st.rs (st.lead.getD j 0 - 1).toNat u else 0

def okOf (st : St) (u : Nat) : Bool := (List.range st.rs.length).all fun i => decide (i < st.done) || decide (el st.rs i u = 0)

/-- All rows have n elements of the field. -/
def Good (q : Int) (n : Nat) (rs : List (List Int)) : Prop := ∀ (i : Nat) (r : List Int), rs[i]? = some r → r.length = n ∧ ∀ (j : Nat) (x : Int), r[j]? = some x → 0 ≤ x ∧ x < q

section
variable {q : Int} {n : Nat} {rs : List (List Int)}
theorem scale_length (q : Int) (r : List Int) (n : Int) : (scale q r n).length = r.length := by simp [scale]
theorem less_length (q : Int) (r s : List Int) : (less q r s).length = r.length := by simp [less]
theorem Good.set (h : Good q n rs) {r : List Int} (hl : r.length = n) (hr : ∀ (j : Nat) (x : Int), r[j]? = some x → 0 ≤ x ∧ x < q) (i : Nat) : Good q n (rs.set i r) := by
  intro j s hj
  rw [List.getElem?_set] at hj
  split at hj
  · split at hj
    · cases hj; exact ⟨hl, hr⟩
    · cases hj
  · exact h j s hj
theorem Good.row (h : Good q n rs) {i : Nat} (hi : i < rs.length) : (rs.getD i []).length = n := by
  have := h i (rs[i]) (by simp [hi])
  simpa [List.getD, hi] using this.1
theorem Good.get (h : Good q n rs) {i : Nat} (hi : i < rs.length) : rs[i]? = some (rs.getD i []) := by simp [List.getD, hi]
theorem scale_elem (hq : 1 ≤ q) (r : List Int) (m : Int) : ∀ (j : Nat) (x : Int), (scale q r m)[j]? = some x → 0 ≤ x ∧ x < q := by
  intro j x hx
  simp only [scale, List.getElem?_map] at hx
  obtain ⟨y, _, rfl⟩ := Option.map_eq_some_iff.1 hx
  exact ⟨Int.emod_nonneg _ (by omega), Int.emod_lt_of_pos _ (by omega)⟩
theorem less_elem (hq : 1 ≤ q) (r s : List Int) : ∀ (j : Nat) (x : Int), (less q r s)[j]? = some x → 0 ≤ x ∧ x < q := by
  intro j x hx
  simp only [less, List.getElem?_map] at hx
  obtain ⟨y, _, rfl⟩ := Option.map_eq_some_iff.1 hx
  exact ⟨Int.emod_nonneg _ (by omega), Int.emod_lt_of_pos _ (by omega)⟩
theorem Good.el (h : Good q n rs) (hq : 1 ≤ q) (i j : Nat) : 0 ≤ el rs i j ∧ el rs i j < q := by
  unfold Ytneliejncfncdaa.el
  simp only [List.getD]
  cases hi : rs[i]? with
  | none => simp; omega
  | some r =>
    simp only [Option.getD_some]
    cases hj : r[j]? with
    | none => simp; omega
    | some x => exact (h i r hi).2 j x hj
theorem Good.scaled (h : Good q n rs) (hq : 1 ≤ q) {i : Nat} (hi : i < rs.length) (m : Int) (k : Nat) : Good q n (rs.set k (scale q (rs.getD i []) m)) :=
  h.set (by rw [scale_length, h.row hi]) (scale_elem hq _ _) k
theorem Good.swapped (h : Good q n rs) {i j : Nat} (hi : i < rs.length) (hj : j < rs.length) : Good q n (swapped rs i j) :=
  (h.set (h.row hj) (h j _ (h.get hj)).2 i).set (h.row hi) (h i _ (h.get hi)).2 j
theorem swapped_length (rs : List (List Int)) (i j : Nat) : (swapped rs i j).length = rs.length := by simp [Ytneliejncfncdaa.swapped]
theorem norm_length (pwf : Int → Int) (q : Int) (col : Nat) (rs : List (List Int)) (done : Nat) : (norm pwf q col rs done).length = rs.length := by simp [norm]
theorem cleared_length (q : Int) (col done : Nat) (rs : List (List Int)) : ∀ k, (cleared q col done rs k).length = rs.length
  | 0 => rfl
  | k + 1 => by
    rw [cleared]
    split
    · exact cleared_length q col done rs k
    · rw [List.length_set]; exact cleared_length q col done rs k
theorem Good.cleared (h : Good q n rs) (hq : 1 ≤ q) (col done : Nat) : ∀ k, k ≤ rs.length → Good q n (cleared q col done rs k)
  | 0, _ => h
  | k + 1, hk => by
    have ih := Good.cleared h hq col done k (by omega)
    rw [Ytneliejncfncdaa.cleared]
    split
    · exact ih
    · exact ih.set (by rw [less_length, ih.row (by rw [cleared_length]; omega)]) (less_elem hq _ _) k
theorem pivot_le (rs : List (List Int)) (col : Nat) : ∀ n k, k ≤ pivot rs col n k ∧ pivot rs col n k ≤ k + n
  | 0, k => by simp [pivot]
  | n + 1, k => by
    rw [pivot]
    split
    · have := pivot_le rs col n (k + 1); omega
    · omega
theorem pivot_ne (rs : List (List Int)) (col : Nat) : ∀ n k, pivot rs col n k < k + n → el rs (pivot rs col n k) col ≠ 0
  | 0, k => by simp [pivot]
  | n + 1, k => by
    rw [pivot]
    split
    · intro h; exact pivot_ne rs col n (k + 1) (by omega)
    · rename_i h; intro _; exact h
theorem pivot_zero (rs : List (List Int)) (col : Nat) : ∀ n k j, k ≤ j → j < pivot rs col n k → el rs j col = 0
  | 0, k, j => by simp [pivot]; omega
  | n + 1, k, j => by
    rw [pivot]
    split
    · rename_i h
      intro h1 h2
      by_cases e : j = k
      · subst e; exact h
      · exact pivot_zero rs col n (k + 1) j (by omega) h2
    · intro h1 h2; omega
end
/-- The first k of n elements are given by f, the others are 0. -/
def fillTo (f : Nat → Int) (n k : Nat) : List Int := (List.range n).map fun i => if i < k then f i else 0
theorem fillTo_length (f : Nat → Int) (n k : Nat) : (fillTo f n k).length = n := by simp [fillTo]
theorem fillTo_zero (f : Nat → Int) (n : Nat) : fillTo f n 0 = List.replicate n 0 := by
  refine List.ext_getElem (by simp [fillTo]) fun i h1 h2 => ?_
  simp [fillTo]
theorem fillTo_set (f : Nat → Int) (n k : Nat) : (fillTo f n k).set k (f k) = fillTo f n (k + 1) := by
  refine List.ext_getElem (by simp [fillTo]) fun i h1 h2 => ?_
  simp only [fillTo, List.getElem_set, List.getElem_map, List.getElem_range]
  by_cases e : k = i
  · subst e; simp
  · rw [if_neg e]
    by_cases h : i < k
    · rw [if_pos h, if_pos (by omega)]
    · rw [if_neg h, if_neg (by omega)]
theorem fillTo_skip (f : Nat → Int) (n k : Nat) (h : f k = 0) : fillTo f n k = fillTo f n (k + 1) := by
  refine List.ext_getElem (by simp [fillTo]) fun i h1 h2 => ?_
  simp only [fillTo, List.getElem_map, List.getElem_range]
  by_cases e : k = i
  · subst e; simp [h]
  · by_cases h : i < k
    · rw [if_pos h, if_pos (by omega)]
    · rw [if_neg h, if_neg (by omega)]
theorem fillTo_all (f : Nat → Int) (n : Nat) : fillTo f n n = (List.range n).map f := by
  refine List.ext_getElem (by simp [fillTo]) fun i h1 h2 => ?_
  simp only [fillTo, List.getElem_map, List.getElem_range]
  rw [if_pos (by simpa [fillTo] using h1)]

theorem okOf_true {st : St} {u : Nat} (h : ∀ i, st.done ≤ i → i < st.rs.length → el st.rs i u = 0) : okOf st u = true := by
  unfold okOf
  rw [List.all_eq_true]
  intro i hi
  by_cases hd : i < st.done
  · simp [hd]
  · simp [h i (by omega) (by simpa using hi)]
theorem okOf_false {st : St} {u i : Nat} (h1 : st.done ≤ i) (h2 : i < st.rs.length) (h : el st.rs i u ≠ 0) : okOf st u = false := by
  unfold okOf
  rw [List.all_eq_false]
  exact ⟨i, by simpa using h2, by simp [h]; omega⟩
theorem okOf_el {st : St} {u i : Nat} (h : okOf st u = true) (h1 : st.done ≤ i) (h2 : i < st.rs.length) : el st.rs i u = 0 := by
  unfold okOf at h
  rw [List.all_eq_true] at h
  have := h i (by simpa using h2)
  simp at this
  omega
end Go.Proofs.Ytneliejncfncdaa

namespace Go.Proofs.Ytneliejncfncdaa
open Go.RowKit

theorem clos_mul (q x y : Int) (B : Nat) (w : World) (hq : 2 ≤ q ∧ q ≤ 31) (hx : 0 ≤ x ∧ x < q) (hy : 0 ≤ y ∧ y < q) (hc : w.cell? ⟨B, 0, none⟩ = some (.int .i64 q)) :
    Calls Try.prog 82 #[.int .i64 x, .int .i64 y, .pointer (some ⟨B, 0, none⟩)] w fun e w' => e = .returned (.int .i64 (x * y % q)) ∧ w' = w := by
  obtain ⟨hq1, hq2⟩ := hq
  obtain ⟨hx1, hx2⟩ := hx
  obtain ⟨hy1, hy2⟩ := hy
  go_enter Try.func82, Try.ntmps82
  go_wp2_with (go_at_call 78; refine (mul_any _ _ _ _ (by omega) ⟨by omega, by omega⟩ ⟨by omega, by omega⟩).mono ?_; rintro e w' ⟨rfl, rfl⟩)
  go_ret
  exact ⟨rfl, rfl⟩

theorem clos_sub (q x y : Int) (B : Nat) (w : World) (hq : 2 ≤ q ∧ q ≤ 31) (hx : 0 ≤ x ∧ x < q) (hy : 0 ≤ y ∧ y < q) (hc : w.cell? ⟨B, 0, none⟩ = some (.int .i64 q)) :
    Calls Try.prog 83 #[.int .i64 x, .int .i64 y, .pointer (some ⟨B, 0, none⟩)] w fun e w' => e = .returned (.int .i64 ((x - y) % q)) ∧ w' = w := by
  obtain ⟨hq1, hq2⟩ := hq
  obtain ⟨hx1, hx2⟩ := hx
  obtain ⟨hy1, hy2⟩ := hy
  go_enter Try.func83, Try.ntmps83
  go_wp2_with (go_at_call 77; refine (sub_any _ _ _ _ ⟨by omega, by omega⟩ ⟨by omega, by omega⟩ ⟨by omega, by omega⟩).mono ?_; rintro e w' ⟨rfl, rfl⟩)
  go_ret
  exact ⟨rfl, rfl⟩

set_option maxRecDepth 100000 in
set_option maxHeartbeats 1600000 in
theorem each_any (F : FuncId) (B : Nat) (g : Int → Int → Int) (q : Int) (A C : Option Addr) (c d : Nat) (l m : List Int) (w : World)
    (hcf : ∀ args w, (callFunc F args).run Try.prog w = .ok (.enter F args) w)
    (hF : ∀ x y (W : World), 0 ≤ x ∧ x < q → 0 ≤ y ∧ y < q → W.cell? ⟨B, 0, none⟩ = some (.int .i64 q) → Calls Try.prog F #[.int .i64 x, .int .i64 y, .pointer (some ⟨B, 0, none⟩)] W fun e w' => e = .returned (.int .i64 (g x y)) ∧ w' = W)
    (hc : w.cell? ⟨B, 0, none⟩ = some (.int .i64 q)) (hle : elemB q l = true) (hme : elemB q m = true) (hlm : l.length ≤ m.length) (hl : l.length ≤ 100000) (hm : m.length ≤ 1000000) (hA : Ints w A l) (hC : Ints w C m) :
    Calls Try.prog 84 #[.func (.func F) #[] #[.pointer (some ⟨B, 0, none⟩)], .slice A l.length c, .slice C m.length d] w (RetOwn ((List.range l.length).map fun j => g (l.getD j 0) (m.getD j 0)) w) := by
  have lB := World.block_lt_of_cell? _ _ hc
  have HF := Lib.hid hF
  clear hF
  obtain ⟨f, hf0⟩ : ∃ f : Nat → Int, f = fun j => g (l.getD j 0) (m.getD j 0) := ⟨_, rfl⟩
  rw [← hf0]
  have HF0 := Lib.hid hf0
  clear hf0
  go_enter Try.func84, Try.ntmps84
  go_wp2_with (at_make; refine wpList_makeInts _ rfl _ _ rfl w.heap.size _ _ l.length rfl rfl rfl rfl (by omega) (Nat.le_refl _) ?_)
  intro w1 hown1 hgrow1
  have hb1 := (Below.refl w.heap.size w).grown hgrow1 (Nat.le_refl _) (by intro k hk; cases hk)
  clear hgrow1
  go_wp2
  go_loopw [14] (fun i wr => ∃ k : Nat, k ≤ l.length ∧ i = .int .i64 k ∧ (∃ xs, xs.length = l.length ∧ Filled f k xs ∧ OwnI wr w.heap.size (.slice (some ⟨w.heap.size, 0, none⟩) l.length l.length) l.length xs) ∧ Below w.heap.size w wr) (fun i _ => l.length - (intOf i).toNat)
  case atStart => exact ⟨0, by omega, rfl, ⟨_, by simp, Filled.zero _ _, hown1⟩, hb1⟩
  case round =>
    clear hb1 hown1
    obtain ⟨k, hk, rfl, ⟨xs, hxl, hf, hown⟩, hbl⟩ := hrel
    have HX := Lib.hid hxl
    clear hxl
    by_cases hlt : k < l.length
    · obtain ⟨z, hz⟩ := hown.cell hlt
      have hfz := hown.frozen k
      have hcr := (hbl.cell lB).trans hc
      obtain ⟨b1, o1, rfl, hlb1, hx1⟩ := hA.get hlt
      obtain ⟨b2, o2, rfl, hlb2, hx2⟩ := hC.get (show k < m.length by omega)
      have hy1 := (hbl.cell (p := ⟨b1, o1 + k, none⟩) hlb1).trans hx1
      have hy2 := (hbl.cell (p := ⟨b2, o2 + k, none⟩) hlb2).trans hx2
      have e1 := elem_get hle hlt
      have e2 := elem_get hme (show k < m.length by omega)
      have hfk : f k = g l[k] (m[k]'(by omega)) := by rw [HF0.out]; simp [List.getD, hlt, show k < m.length by omega]
      generalize l[k] = x at *
      generalize (m[k]'(by omega)) = y at *
      obtain ⟨e11, e12⟩ := e1
      obtain ⟨e21, e22⟩ := e2
      have HK := Lib.hid hfk
      have n1 : ∀ u, (wr.setCell ⟨w.heap.size, k, none⟩ u).cell? ⟨b1, o1 + k, none⟩ = some (.int .i64 x) := fun u => (World.cell?_setCell_far _ _ _ _ (by simp; omega)).trans hy1
      have n2 : ∀ u, (wr.setCell ⟨w.heap.size, k, none⟩ u).cell? ⟨b2, o2 + k, none⟩ = some (.int .i64 y) := fun u => (World.cell?_setCell_far _ _ _ _ (by simp; omega)).trans hy2
      have n3 : ∀ u, (wr.setCell ⟨w.heap.size, k, none⟩ u).cell? ⟨B, 0, none⟩ = some (.int .i64 q) := fun u => (World.cell?_setCell_far _ _ _ _ (by simp; omega)).trans hcr
      clear hfk hA hC hc lB hx1 hx2
      have k1 : (0 : Int) ≤ (k : Int) := by omega
      have k2 : (k : Int) < (l.length : Int) := by omega
      have k3 : (k : Int) < (m.length : Int) := by omega
      go_wp2
      go_region_held3 (fun w' => w'.cell? ⟨b1, o1 + k, none⟩ = some (.int .i64 x) ∧ w'.cell? ⟨b2, o2 + k, none⟩ = some (.int .i64 y) ∧ w'.cell? ⟨B, 0, none⟩ = some (.int .i64 q)) (first | go_keep)
        (first | (go_split_ands; refine (HF.out x y _ ⟨e11, e12⟩ ⟨e21, e22⟩ ?_).mono ?_; assumption; rintro e w' ⟨rfl, rfl⟩))
      clear n1 n2 n3
      go_wp2
      go_roundw
      case rel => exact ⟨k + 1, by omega, by go_num, ⟨_, by rw [List.length_set]; exact HX.out, hf.set (by rw [HX.out]; exact hlt), by rw [HK.out]; exact (hown.set k _).drew⟩, (hbl.setCell (Nat.le_refl _) _).drew⟩
      case measure => simp [intOf]; omega
    · obtain rfl : k = l.length := by omega
      go_wp2
      go_ret
      have e := hf.all HX.out
      have e2 := HF0.out
      refine ⟨_, rfl, ?_, hbl⟩
      rw [← e, HX.out]
      exact hown
theorem enter82 : ∀ args w, (callFunc 82 args).run Try.prog w = .ok (.enter 82 args) w := fun _ _ => by kernel_rfl
theorem enter83 : ∀ args w, (callFunc 83 args).run Try.prog w = .ok (.enter 83 args) w := fun _ _ => by kernel_rfl

theorem elemB_iff (q : Int) (l : List Int) : elemB q l = true ↔ ∀ (j : Nat) (x : Int), l[j]? = some x → 0 ≤ x ∧ x < q := by
  constructor
  · intro h j x hx
    have := (List.all_eq_true.1 h) x (List.mem_of_getElem? hx)
    simpa using this
  · intro h
    exact elemB_of q l fun k hk => h k _ (by simp [hk])

/-- each of mul and a list of one number. -/
theorem each_mul (B : Nat) (q y : Int) (A C : Option Addr) (c d n : Nat) (l : List Int) (w : World) (hq : 2 ≤ q ∧ q ≤ 31) (hy : 0 ≤ y ∧ y < q)
    (hc : w.cell? ⟨B, 0, none⟩ = some (.int .i64 q)) (hle : elemB q l = true) (hln : l.length = n) (hn : n ≤ 100000) (hA : Ints w A l) (hC : Ints w C ((List.range n).map fun _ => y)) :
    Calls Try.prog 84 #[.func (.func 82) #[] #[.pointer (some ⟨B, 0, none⟩)], .slice A n c, .slice C n d] w (RetOwn (scale q l y) w) := by
  subst hln
  have h := each_any 82 B (fun x y => x * y % q) q A C c d l ((List.range l.length).map fun _ => y) w enter82 (fun x y W hx hy hc => clos_mul q x y B W hq hx hy hc) hc hle
    ((elemB_iff _ _).2 (fun j x hx => by
      simp only [List.getElem?_map] at hx
      obtain ⟨z, _, rfl⟩ := Option.map_eq_some_iff.1 hx
      exact hy)) (by simp) hn (by simp; omega) hA hC
  have e : (List.range l.length).map (fun j => l.getD j 0 * (((List.range l.length).map fun _ => y).getD j 0) % q) = scale q l y := by
    unfold scale
    refine List.map_congr_left fun j hj => ?_
    have hj' : j < l.length := by simpa using hj
    simp [List.getD, hj']
  simp only [List.length_map, List.length_range] at h
  rw [e] at h
  exact h

/-- each of sub. -/
theorem each_sub (B : Nat) (q : Int) (A C : Option Addr) (c d n : Nat) (l m : List Int) (w : World) (hq : 2 ≤ q ∧ q ≤ 31)
    (hc : w.cell? ⟨B, 0, none⟩ = some (.int .i64 q)) (hle : elemB q l = true) (hme : elemB q m = true) (hln : l.length = n) (hmn : m.length = n) (hn : n ≤ 100000) (hA : Ints w A l) (hC : Ints w C m) :
    Calls Try.prog 84 #[.func (.func 83) #[] #[.pointer (some ⟨B, 0, none⟩)], .slice A n c, .slice C n d] w (RetOwn (less q l m) w) := by
  subst hln
  have h := each_any 83 B (fun x y => (x - y) % q) q A C c d l m w enter83 (fun x y W hx hy hc => clos_sub q x y B W hq hx hy hc) hc hle hme (by omega) hn (by omega) hA hC
  rw [hmn] at h
  exact h
end Go.Proofs.Ytneliejncfncdaa

namespace Go.Proofs.Lex

section
variable {P : Program} {ops : Array Oper} {Q : Exit → Act → World → Prop} {md : Region.Mode} {S : World → Prop} {N : Nat → Bool}

/-- Whatever order is picked from here on; S holds behind those operations that N names. -/
def wpAnyN (P : Program) (md : Region.Mode) (ops : Array Oper) (Q : Exit → Act → World → Prop) (S : World → Prop) (N : Nat → Bool) : Nat → Array Bool → Act → World → Prop
  | 0, listed, a, w => Region.ready md ops listed = [] ∧ Q .normal a w
  | fuel + 1, listed, a, w =>
    (Region.ready md ops listed = [] → Q .normal a w) ∧
    ∀ i ∈ Region.ready md ops listed, wpOp P ops Q i (fun a' w' => (N i = true → S w') ∧ wpAnyN P md ops Q S N fuel (listed.setIfInBounds i true) a' w') a w

theorem wpAny_of_N : ∀ (fuel : Nat) (listed : Array Bool) (a : Act) (w : World), wpAnyN P md ops Q S N fuel listed a w → wpAny P md ops Q fuel listed a w
  | 0, _, _, _, h => h
  | fuel + 1, _, _, _, h => ⟨h.1, fun i hi => wpOp_mono (fun a' w' h' => wpAny_of_N fuel _ a' w' h'.2) (h.2 i hi)⟩

theorem wpAnyN_first {i : Nat} {oi : Oper} {v : Value} (hi : ops[i]? = some oi) (hsel : ∀ (j : Nat) (o : Oper) cs b, ops[j]? = some o → o.op ≠ .select cs b)
    (hQ : ∀ c a w, Q (.panic c) (a.put oi.dst v) w → Q (.panic c) a w) (hN : ∀ j, j < ops.size → j ≠ i → N j = false → Region.waitsFor md ops j i = true) :
    ∀ (fuel : Nat) (listed : Array Bool) (a : Act) (w : World),
      (∀ j oj, ops[j]? = some oj → j ≠ i → listed.getD j true = false → (∀ e ∈ oj.after, Region.binds md e = true → e.on ≠ i) → oi.apart ops oj = true) →
      i ∈ Region.ready md ops listed → YieldsIf P ops S oi v a → S w →
      wpAnyN P md ops Q S N fuel (listed.setIfInBounds i true) (a.put oi.dst v) w → wpAnyN P md ops Q S N (fuel + 1) listed a w := by
  intro fuel
  induction fuel with
  | zero =>
    intro listed a w _ hr hy hS H
    refine ⟨fun h => (by rw [h] at hr; cases hr), fun j hj => ?_⟩
    by_cases hji : j = i
    · subst hji; exact hy.wpOp hi hS ⟨fun _ => hS, H⟩
    · have := ready_mono hj hji
      rw [H.1] at this
      cases this
  | succ fuel ih =>
    intro listed a w hfree hr hy hS H
    refine ⟨fun h => (by rw [h] at hr; cases hr), fun j hj => ?_⟩
    by_cases hji : j = i
    · subst hji; exact hy.wpOp hi hS ⟨fun _ => hS, H⟩
    · have h1 := H.2 j (ready_mono hj hji)
      obtain ⟨hjun, oj, hoj, hall⟩ := mem_ready.1 hj
      have hnot : ∀ e ∈ oj.after, Region.binds md e = true → e.on ≠ i := fun e he hb heq => by
        have h1 := hall e he hb
        have h0 := (mem_ready.1 hr).1
        rw [heq] at h1
        rcases Nat.lt_or_ge i listed.size with h' | h'
        · simp [h'] at h0 h1; rw [h0] at h1; cases h1
        · simp [Array.getElem?_eq_none h'] at h1
      have hNj : N j = true := by
        cases hn : N j with
        | true => rfl
        | false =>
          obtain ⟨o', ho', e, he, hb, hon⟩ := Region.waitsFor_spec (hN j (Array.getElem?_eq_some_iff.1 hoj).1 hji hn)
          have : o' = oj := Option.some.inj (ho'.symm.trans hoj)
          subst this
          exact absurd hon (hnot e he hb)
      have h2 := wpOp_putIf hoj (hfree j oj hoj hji hjun hnot) (fun cs b => hsel i oi cs b hi) (fun cs b => hsel j oj cs b hoj) hQ hy h1
      have hfree' : ∀ k ok, ops[k]? = some ok → k ≠ i → (listed.setIfInBounds j true).getD k true = false →
          (∀ e ∈ ok.after, Region.binds md e = true → e.on ≠ i) → oi.apart ops ok = true := fun k ok hk hki hun hno => by
        refine hfree k ok hk hki ?_ hno
        by_cases hjk : j = k
        · subst hjk; exact hjun
        · rw [getD_set_ne true hjk] at hun; exact hun
      refine wpOp_mono (fun a' w' h3 => ⟨fun _ => h3.2.1 hNj, ih (listed.setIfInBounds j true) a' w' hfree' (ready_mono hr (Ne.symm hji)) h3.1 (h3.2.1 hNj) ?_⟩) h2
      rw [Array.setIfInBounds_comm _ _ hji]
      exact h3.2.2

/-- The walk: (number, is it taken first). -/
def wpLex (P : Program) (ops : Array Oper) (Q : Exit → Act → World → Prop) (S : World → Prop) (N : Nat → Bool) : List (Nat × Bool) → Act → World → Prop
  | [], a, w => Q .normal a w
  | (k, true) :: rest, a, w => ∃ o v, ops[k]? = some o ∧ YieldsIf P ops S o v a ∧ wpLex P ops Q S N rest (a.put o.dst v) w
  | (k, false) :: rest, a, w => wpOp P ops Q k (fun a' w' => (N k = true → S w') ∧ wpLex P ops Q S N rest a' w') a w

def lexOK (md : Region.Mode) (ops : Array Oper) (N : Nat → Bool) : List (Nat × Bool) → Array Bool → Bool
  | [], listed => (Region.ready md ops listed).isEmpty
  | (k, true) :: rest, listed => (Region.ready md ops listed).contains k && Region.free md ops listed k && (List.range ops.size).all (fun j => j == k || N j || Region.waitsFor md ops j k) && lexOK md ops N rest (listed.setIfInBounds k true)
  | (k, false) :: rest, listed => decide (Region.ready md ops listed = [k]) && (N k || rest.all (fun x => !x.2)) && lexOK md ops N rest (listed.setIfInBounds k true)

theorem wpAnyN_of_lex (hsel : ∀ (j : Nat) (o : Oper) cs b, ops[j]? = some o → o.op ≠ .select cs b) (hQ : ∀ c a b w, Q (.panic c) a w → Q (.panic c) b w) :
    ∀ (l : List (Nat × Bool)) (listed : Array Bool) (a : Act) (w : World), lexOK md ops N l listed = true → (S w ∨ l.all (fun x => !x.2) = true) → wpLex P ops Q S N l a w → wpAnyN P md ops Q S N l.length listed a w
  | [], listed, a, w, hok, _, h => ⟨by simpa [lexOK] using hok, h⟩
  | (k, true) :: rest, listed, a, w, hok, hS, h => by
    obtain ⟨o, v, ho, hy, h⟩ := h
    simp only [lexOK, Bool.and_eq_true] at hok
    obtain ⟨⟨⟨h1, h2⟩, h3⟩, h4⟩ := hok
    have hS : S w := by
      rcases hS with h | h
      · exact h
      · simp at h
    refine wpAnyN_first ho hsel (fun c a w => hQ c _ _ w) (fun j hj hne hn => ?_) _ listed a w (Region.free_spec ho h2) (by simpa using h1) hy hS (wpAnyN_of_lex hsel hQ rest _ _ _ h4 (.inl hS) h)
    have := List.all_eq_true.1 h3 j (List.mem_range.2 hj)
    simpa [hne, hn] using this
  | (k, false) :: rest, listed, a, w, hok, hS, h => by
    simp only [lexOK, Bool.and_eq_true, decide_eq_true_eq] at hok
    obtain ⟨⟨h1, h2⟩, h3⟩ := hok
    refine ⟨fun h0 => (by rw [h1] at h0; cases h0), fun i hi => ?_⟩
    rw [h1] at hi
    have hik : i = k := by simpa using hi
    subst hik
    refine wpOp_mono (fun a' w' h' => ⟨h'.1, wpAnyN_of_lex hsel hQ rest _ _ _ h3 ?_ h'.2⟩) h
    simp only [Bool.or_eq_true] at h2
    exact h2.imp h'.1 id

/-- THE BEGINNING. -/
theorem wp_region_lex {id : Nat} {l : List Oper} {a : Act} {w : World} (S : World → Prop) (N : Nat → Bool) (ord : List (Nat × Bool)) (hm : P.follows .mixedOrders = true)
    (hsel : Region.noSelect l.toArray = true) (hlen : ord.length = l.toArray.size) (hok : lexOK .any l.toArray N ord (Array.replicate l.toArray.size false) = true) (hS : S w.drew)
    (h : wpLex P l.toArray (NoPanic Q) S N ord a w.drew) : (Code.region id l.toArray true).wp P Q a w := by
  refine wp_region_noPanic (wp_region_any hm (wpAny_of_N (S := S) (N := N) _ _ _ _ ?_))
  have := wpAnyN_of_lex (Q := NoPanic Q) (Region.noSelect_spec hsel) (fun c a b w h => h) ord _ a w.drew hok (.inl hS) h
  rw [hlen] at this
  exact this

theorem lex_nil {a : Act} {w : World} (h : Q .normal a w) : wpLex P ops (NoPanic Q) S N [] a w := h

/-- An operation that is taken first. -/
theorem lex_take {k d : Nat} {rest : List (Nat × Bool)} {o : Oper} {v : Value} {a : Act} {w : World} (ho : ops[k]? = some o) (hd : o.dst = some d) (hw : Region.wanted o (yielded ops a.tmps) = true)
    (hv : ∀ w', S w' → (execOp a.eval o).run P w' = .ok (.value v) w') (h : wpLex P ops Q S N rest { tmps := a.tmps.setIfInBounds d v, defers := a.defers } w) : wpLex P ops Q S N ((k, true) :: rest) a w :=
  ⟨o, v, ho, .inl ⟨hw, hv⟩, by rw [hd]; exact h⟩

/-- .. that is not wanted. -/
theorem lex_skip {k d : Nat} {rest : List (Nat × Bool)} {o : Oper} {a : Act} {w : World} (ho : ops[k]? = some o) (hd : o.dst = some d) (hw : Region.wanted o (yielded ops a.tmps) = false)
    (h : wpLex P ops Q S N rest { tmps := a.tmps.setIfInBounds d undef, defers := a.defers } w) : wpLex P ops Q S N ((k, true) :: rest) a w :=
  ⟨o, undef, ho, .inr ⟨hw, rfl⟩, by rw [hd]; exact h⟩

/-- What stands behind an operation of the forced order. -/
def LexQ (P : Program) (ops : Array Oper) (Q : Exit → Act → World → Prop) (S : World → Prop) (n : Bool) (N : Nat → Bool) (rest : List (Nat × Bool)) : Exit → Act → World → Prop
  | .normal, a, w => (n = true → S w) ∧ wpLex P ops Q S N rest a w
  | e, a, w => Q e a w

theorem lexQ_normal {n : Bool} {rest : List (Nat × Bool)} {a : Act} {w : World} (hS : n = true → S w) (h : wpLex P ops Q S N rest a w) : LexQ P ops Q S n N rest .normal a w := ⟨hS, h⟩

theorem upon_post {Q1 Q2 : Exit → Act → World → Prop} (hp : ∀ c a w, Q1 (.panic c) a w → Q2 (.panic c) a w) (ho : ∀ a w, Q1 .outgrown a w → Q2 .outgrown a w) {o : Oper} {a : Act} {w : World} {K : Act → World → Prop}
    (h : o.wp P a w K Q1) : o.wp P a w K Q2 := by
  unfold Oper.wp at *
  generalize (execOp a.eval o).run P w = r at *
  cases r with
  | ok n w' =>
    cases n <;> simp only [Oper.upon] at h ⊢
    case value u => exact h
    case skip => exact h
    case defer d => exact h
    case enter f args =>
      refine Calls.mono h fun e w'' he => ?_
      cases e with
      | returned u => exact he
      | panicked c => exact hp _ _ _ he
      | outgrown => obtain ⟨a', w3, h3⟩ := he; exact ⟨a', w3, ho _ _ h3⟩
    case row row args => exact h
  | halt x w' =>
    cases x <;> simp only [Oper.upon] at h ⊢
    case panic u => exact hp _ _ _ h

/-- An operation of the forced order: a list of one operation, for the walk. -/
theorem lex_do {k : Nat} {rest : List (Nat × Bool)} {o : Oper} {a : Act} {w : World} (ho : ops[k]? = some o) (h : wpList P ops (LexQ P ops Q S (N k) N rest) [o] a w) :
    wpLex P ops Q S N ((k, false) :: rest) a w := by
  show wpOp P ops Q k (fun a' w' => (N k = true → S w') ∧ wpLex P ops Q S N rest a' w') a w
  unfold wpOp
  simp only [ho]
  unfold wpList at h
  split
  · rename_i hw
    rw [if_pos hw] at h
    rcases h with h | ⟨h1, a', w', h2⟩
    · exact .inl (upon_post (fun _ _ _ h => h) (fun _ _ h => h) h)
    · exact .inr ⟨h1, a', w', h2⟩
  · rename_i hw
    rw [if_neg hw] at h
    exact h
end
end Go.Proofs.Lex

namespace Go.Proofs.Ytneliejncfncdaa
open Go.RowKit

theorem Ints.news {w : World} {a : Addr} {xs : List Int} (h : Ints w (some a) xs) : ∀ (j : Nat) (u : Value), (xs.map (Value.int .i64))[j]? = some u → w.cell? (a.add j) = some u := by
  intro j u hu
  rcases h with h | ⟨b, off, hA, hb, hc⟩
  · rw [h] at hu; simp at hu
  · cases hA
    rw [Addr.add_lit]
    exact hc j u hu

/-- append of a slice of numbers, at a plain region's list. -/
theorem wpList_ints {ops : Array Oper} {rest : List Oper} {o : Oper} {a : Act} {Q : Exit → Act → World → Prop} (w : World) (hgd : o.guard = none) (s x : Operand)
    (ho : o.op = .call { callee := .builtin .append, args := #[s, x], argTypes := #[22, 22] })
    (base : Nat) (v : Value) (n : Nat) (xs : List Int) (hs : a.eval s = v) (hown : OwnI w base v n xs)
    (ad : Addr) (m c : Nat) (ys : List Int) (hx : a.eval x = .slice (some ad) m c) (hy : Ints w (some ad) ys) (hym : ys.length = m)
    (hn : n + m ≤ 1000000) (hbase : base ≤ w.heap.size)
    (h : ∀ v' w', OwnI w' base v' (n + m) (xs ++ ys) → w.grownBy w' v.ownBlock → wpList Try.prog ops Q rest (a.put o.dst v') w') : wpList Try.prog ops Q (o :: rest) a w := by
  obtain ⟨i0, hi0, hz0, hz1, hz2⟩ := info_parts Try.info3
  refine wpList_append_own w hgd s x 22 ho base 3 i0 _ 1 8 Try.underlying22 hi0 hz0 hz1 hz2 rfl (by omega) v n _ hs hown.out ad m c (ys.map (Value.int .i64)) hx (by simpa using hym) hy.news (ints_oneCell _ _)
    (by unfold maxLen; omega) (by omega) hbase ?_
  intro v' w1 hown1 hgrow _
  exact h v' w1 (by unfold OwnI; simpa using hown1) hgrow

set_option maxRecDepth 100000 in
set_option maxHeartbeats 800000 in
/-- slices.Clone of a slice that is not nil. -/
theorem clone_any (a : Addr) (n c : Nat) (xs : List Int) (w : World) (hA : Ints w (some a) xs) (hn : xs.length = n) (hb : n ≤ 100000) :
    Calls Try.prog 80 #[.slice (some a) n c] w (RetOwn xs w) := by
  have he := fun W => Lib.run_eql_slice_nil (P := Try.prog) W 22 3 (some a) n c 0 0 Try.underlying22
  go_enter Try.func80, Try.ntmps80
  go_wp2_with (at_builtin; refine wpList_ints _ rfl _ _ rfl w.heap.size (.slice (some ⟨w.heap.size, 0, none⟩) 0 0) 0 [] rfl ?c1 a n c xs rfl ?c2 hn (by omega) ?c3 ?_)
  case c1 => exact World.ownsRow_lit w #[] 0 (Nat.le_refl _) (by simp [maxLen]) rfl
  case c2 => exact Ints.below hA ((Below.refl _ _).alloc (Nat.le_refl _) _)
  case c3 => simp
  intro v' w1 hown hgrow
  have hb1 := ((Below.refl w.heap.size w).alloc (Nat.le_refl _) (.cells #[] 3)).grown hgrow (by simp) (by intro k hk; simp [Value.ownBlock] at hk; omega)
  clear hgrow
  go_wp2
  go_ret
  refine ⟨_, rfl, ?_, hb1⟩
  rw [hn]
  simpa using hown

/-- The index of the first number of which f is true. -/
def idxI (f : Int → Bool) (xs : List Int) : Int := match xs.findIdx? f with | some i => (i : Int) | none => -1
theorem idxI_any (f : Int → Bool) (xs : List Int) : decide (0 ≤ idxI f xs) = xs.any f := by
  unfold idxI
  cases h : xs.findIdx? f with
  | none =>
    rw [List.findIdx?_eq_none_iff] at h
    rw [eq_comm]
    simp
    exact h
  | some i =>
    have := List.findIdx?_eq_some_iff_getElem.1 h
    obtain ⟨hi, h1, _⟩ := this
    have h2 : xs.any f = true := List.any_eq_true.2 ⟨xs[i], List.getElem_mem hi, h1⟩
    rw [h2]
    simp
theorem idxI_hit (f : Int → Bool) (xs : List Int) (k : Nat) (hk : k < xs.length) (h1 : f xs[k] = true) (h2 : ∀ j (hj : j < xs.length), j < k → f xs[j] = false) : idxI f xs = k := by
  have : xs.findIdx? f = some k := List.findIdx?_eq_some_iff_getElem.2 ⟨hk, h1, fun j hj => by simpa using h2 j (by omega) hj⟩
  unfold idxI
  rw [this]
theorem idxI_miss (f : Int → Bool) (xs : List Int) (h2 : ∀ j (hj : j < xs.length), f xs[j] = false) : idxI f xs = -1 := by
  have : xs.findIdx? f = none := List.findIdx?_eq_none_iff.2 (fun x hx => by obtain ⟨j, hj, rfl⟩ := List.mem_iff_getElem.1 hx; exact h2 j hj)
  unfold idxI
  rw [this]

set_option maxRecDepth 100000 in
set_option maxHeartbeats 800000 in
/-- slices.IndexFunc. -/
theorem index_any (F : FuncId) (cap : Array Value) (f : Int → Bool) (C : World → Prop) (A : Option Addr) (n c : Nat) (xs : List Int) (w : World)
    (hcf : ∀ args w, (callFunc F args).run Try.prog w = .ok (.enter F args) w)
    (hF : ∀ x, x ∈ xs → Calls Try.prog F (#[.int .i64 x] ++ cap) w fun e w' => e = .returned (.bool (f x)) ∧ w' = w)
    (hA : Ints w A xs) (hn : xs.length = n) (hb : n ≤ 1000000) :
    Calls Try.prog 89 #[.slice A n c, .func (.func F) #[] cap] w fun e w' => e = .returned (.int .i64 (idxI f xs)) ∧ w' = w := by
  subst hn
  have HF := Lib.hid hF
  clear hF
  go_enter Try.func89, Try.ntmps89
  go_wp2
  go_loop [8] (fun i => ∃ k : Nat, k ≤ xs.length ∧ i = .int .i64 k ∧ ∀ j (hj : j < xs.length), j < k → f xs[j] = false) (fun i => xs.length - (intOf i).toNat)
  case atStart => exact ⟨0, by omega, rfl, by omega⟩
  case round =>
    obtain ⟨k, hk, rfl, hall⟩ := hrel
    have HA := Lib.hid hall
    clear hall
    by_cases hlt : k < xs.length
    · obtain ⟨b, off, rfl, hb, hc⟩ := hA.get hlt
      obtain ⟨y, hy⟩ : ∃ y, xs[k] = y := ⟨_, rfl⟩
      have hm : y ∈ xs := by rw [← hy]; exact List.getElem_mem hlt
      rw [hy] at hc
      have HY := Lib.hid hy
      clear hy
      have k1 : (0 : Int) ≤ (k : Int) := by omega
      have k2 : (k : Int) < (xs.length : Int) := by omega
      cases hfy : f y with
      | true =>
        have hres := idxI_hit f xs k hlt (by rw [HY.out]; exact hfy) (fun j hj hjk => HA.out j hj hjk)
        have HR := Lib.hid hres
        clear hres
        go_wp2_with fail
        refine (HF.out y hm).mono ?_
        rintro e w' ⟨rfl, rfl⟩
        go_wp2
        go_ret
        exact ⟨ret_int HR.out.symm, rfl⟩
      | false =>
        have HFY := Lib.hid hfy
        go_wp2_with fail
        refine (HF.out y hm).mono ?_
        rintro e w' ⟨rfl, rfl⟩
        go_wp2
        go_round
        case rel =>
          refine ⟨k + 1, by omega, by go_num, fun j hj hjk => ?_⟩
          by_cases e : j = k
          · subst e; rw [HY.out]; exact HFY.out
          · exact HA.out j hj (by omega)
        case measure => simp [intOf]; omega
    · have hres := idxI_miss f xs (fun j hj => HA.out j hj (by omega))
      have HR := Lib.hid hres
      clear hres
      go_wp2
      go_ret
      exact ⟨ret_int HR.out.symm, rfl⟩

/-- slices.ContainsFunc. -/
theorem contains_any (F : FuncId) (cap : Array Value) (f : Int → Bool) (C : World → Prop) (A : Option Addr) (n c : Nat) (xs : List Int) (w : World)
    (hcf : ∀ args w, (callFunc F args).run Try.prog w = .ok (.enter F args) w)
    (hF : ∀ x, x ∈ xs → Calls Try.prog F (#[.int .i64 x] ++ cap) w fun e w' => e = .returned (.bool (f x)) ∧ w' = w)
    (hA : Ints w A xs) (hn : xs.length = n) (hb : n ≤ 1000000) :
    Calls Try.prog 86 #[.slice A n c, .func (.func F) #[] cap] w fun e w' => e = .returned (.bool (xs.any f)) ∧ w' = w := by
  have hany := Lib.hid (idxI_any f xs)
  go_enter Try.func86, Try.ntmps86
  go_wp2_with fail
  refine (index_any F cap f C A n c xs w hcf hF hA hn hb).mono ?_
  rintro e w' ⟨rfl, rfl⟩
  go_wp2
  go_ret
  exact ⟨by rw [← hany.out]; rfl, rfl⟩

theorem enter88 : ∀ args w, (callFunc 88 args).run Try.prog w = .ok (.enter 88 args) w := fun _ _ => by kernel_rfl
theorem nonzero_any (x : Int) (w : World) : Calls Try.prog 88 #[.int .i64 x] w fun e w' => e = .returned (.bool (x != 0)) ∧ w' = w := by
  go_enter Try.func88, Try.ntmps88
  go_wp2
  go_ret
  exact ⟨rfl, rfl⟩
end Go.Proofs.Ytneliejncfncdaa

namespace Go.Proofs.Ytneliejncfncdaa
open Go.RowKit

/-- c times a polynomial, shifted by i, is taken from p: the first n elements. -/
def subAt (q c : Int) (d : List Int) (i n : Nat) (p : List Int) : List Int :=
  (List.range p.length).map fun m => if i ≤ m ∧ m < i + n then (p.getD m 0 - c * d.getD (m - i) 0) % q else p.getD m 0
theorem subAt_length (q c : Int) (d : List Int) (i n : Nat) (p : List Int) : (subAt q c d i n p).length = p.length := by simp [subAt]
theorem subAt_zero (q c : Int) (d : List Int) (i : Nat) (p : List Int) : subAt q c d i 0 p = p := by
  refine List.ext_getElem (by simp [subAt]) fun m h1 h2 => ?_
  simp only [subAt, List.getElem_map, List.getElem_range]
  rw [if_neg (by omega)]
  simp [List.getD, h2]
theorem subAt_succ (q c : Int) (d : List Int) (i n : Nat) (p : List Int) :
    (subAt q c d i n p).set (i + n) ((p.getD (i + n) 0 - c * d.getD n 0) % q) = subAt q c d i (n + 1) p := by
  refine List.ext_getElem (by simp [subAt]) fun m h1 h2 => ?_
  simp only [subAt, List.getElem_set, List.getElem_map, List.getElem_range]
  by_cases e : i + n = m
  · subst e
    rw [if_pos rfl, if_pos (by omega), show i + n - i = n by omega]
  · rw [if_neg e]
    by_cases h : i ≤ m ∧ m < i + n
    · rw [if_pos h, if_pos (by omega)]
    · rw [if_neg h, if_neg (by omega)]
theorem subAt_at (q c : Int) (d : List Int) (i n : Nat) (p : List Int) (h : i + n < p.length) : (subAt q c d i n p)[i + n]'(by rw [subAt_length]; exact h) = p.getD (i + n) 0 := by
  simp only [subAt, List.getElem_map, List.getElem_range]
  rw [if_neg (by omega)]
theorem subAt_elem {q : Int} (hq : 1 ≤ q) (c : Int) (d : List Int) (i n : Nat) {p : List Int} (hp : elemB q p = true) : elemB q (subAt q c d i n p) = true := by
  refine (elemB_iff' _ _).2 fun j x hx => ?_
  simp only [subAt, List.getElem?_map] at hx
  obtain ⟨m, hm, rfl⟩ := Option.map_eq_some_iff.1 hx
  split
  · exact ⟨Int.emod_nonneg _ (by omega), Int.emod_lt_of_pos _ (by omega)⟩
  · have hm2 : m < p.length := by
      have := List.getElem?_eq_some_iff.1 hm
      obtain ⟨h1, h2⟩ := this
      simp at h1 h2
      omega
    have := (elemB_iff' q p).1 hp m _ (List.getElem?_eq_getElem hm2)
    simpa [List.getD, hm2] using this

/-- What is left after n steps. L: how many steps there are. -/
def remN (q : Int) (d p : List Int) (L : Nat) : Nat → List Int
  | 0 => p
  | n + 1 => subAt q ((remN q d p L n).getD (L - 1 - n + d.length - 1) 0) d (L - 1 - n) d.length (remN q d p L n)
theorem remN_length (q : Int) (d p : List Int) (L : Nat) : ∀ n, (remN q d p L n).length = p.length
  | 0 => rfl
  | n + 1 => by rw [remN, subAt_length]; exact remN_length q d p L n
theorem remN_elem {q : Int} (hq : 1 ≤ q) (d : List Int) {p : List Int} (hp : elemB q p = true) (L : Nat) : ∀ n, elemB q (remN q d p L n) = true
  | 0 => hp
  | n + 1 => by rw [remN]; exact subAt_elem hq _ _ _ _ (remN_elem hq d hp L n)

/-- The quotient's element i. -/
def quoF (q : Int) (d p : List Int) (L : Nat) (i : Nat) : Int := (remN q d p L (L - 1 - i)).getD (i + d.length - 1) 0
/-- The quotient, from k on. -/
def fillFrom (f : Nat → Int) (n k : Nat) : List Int := (List.range n).map fun i => if k ≤ i then f i else 0
theorem fillFrom_length (f : Nat → Int) (n k : Nat) : (fillFrom f n k).length = n := by simp [fillFrom]
theorem fillFrom_top (f : Nat → Int) (n : Nat) : fillFrom f n n = List.replicate n 0 := by
  refine List.ext_getElem (by simp [fillFrom]) fun i h1 h2 => ?_
  simp only [fillFrom, List.getElem_map, List.getElem_range, List.getElem_replicate]
  rw [if_neg (by simp [fillFrom] at h1; omega)]
theorem fillFrom_set (f : Nat → Int) (n k : Nat) : (fillFrom f n (k + 1)).set k (f k) = fillFrom f n k := by
  refine List.ext_getElem (by simp [fillFrom]) fun i h1 h2 => ?_
  simp only [fillFrom, List.getElem_set, List.getElem_map, List.getElem_range]
  by_cases e : k = i
  · subst e; simp
  · rw [if_neg e]
    by_cases h : k ≤ i
    · rw [if_pos h, if_pos (by omega)]
    · rw [if_neg h, if_neg (by omega)]
theorem fillFrom_zero (f : Nat → Int) (n : Nat) : fillFrom f n 0 = (List.range n).map f := by simp [fillFrom]

/-- What divided returns. -/
def RetDiv (quo rem : List Int) (w : World) (e : Ending) (w' : World) : Prop :=
  ∃ v, e = .returned (.tuple #[v, .bool (!rem.any (· != 0))]) ∧ OwnI w' w.heap.size v quo.length quo ∧ Below w.heap.size w w'

set_option maxRecDepth 100000 in
set_option maxHeartbeats 3200000 in
theorem divided_any (q : Int) (a1 a2 : Addr) (c1 c2 n1 n2 L : Nat) (p d : List Int) (w : World) (hq : 2 ≤ q ∧ q ≤ 31) (hp : elemB q p = true) (hd : elemB q d = true) (h1 : Ints w (some a1) p) (h2 : Ints w (some a2) d)
    (hn1 : p.length = n1) (hn2 : d.length = n2) (hL : n1 + 1 = n2 + L) (hL1 : 1 ≤ L) (hn2p : 1 ≤ n2) (hb : n1 ≤ 1000) :
    Calls Try.prog 79 #[.int .i64 q, .slice (some a1) n1 c1, .slice (some a2) n2 c2] w (RetDiv ((List.range L).map (quoF q d p L)) (remN q d p L L) w) := by
  obtain ⟨hq1, hq2⟩ := hq
  have H1 := Lib.hid hn1
  have H2 := Lib.hid hn2
  have HL := Lib.hid hL
  have hLn : L ≤ n1 := by omega
  have hnn : n2 ≤ n1 := by omega
  have hnn2 : (0 : Int) ≤ (n1 : Int) - (n2 : Int) + 1 := by omega
  have hnn3 : (0 : Int) < (n1 : Int) - (n2 : Int) + 1 := by omega
  clear hn1 hn2 hL
  go_enter Try.func79, Try.ntmps79
  go_wp2_with (first | (at_make; refine wpList_makeInts _ rfl _ _ rfl w1.heap.size _ _ L rfl rfl (by have := HL.out; omega) (by have := HL.out; omega) (by omega) (Nat.le_refl _) ?_) | (go_at_call 80; refine (clone_any a1 n1 c1 p _ h1 H1.out (by omega)).mono ?_; rintro e w1 ⟨v1, rfl, hown1, hb1⟩; rw [H1.out] at hown1; obtain ⟨g1, cc1, hv1, hg1, hlt1⟩ := hown1.form (by have := HL.out; omega); subst hv1; have HO1 := Lib.hid hown1; have HB1 := Lib.hid hb1; clear hown1 hb1))
  intro w2 hown2 hgrow2
  have hB2 : Below w.heap.size w w2 := HB1.out.trans ((Below.refl w1.heap.size w1).grown hgrow2 (Nat.le_refl _) (by intro k hk; cases hk) |>.mono HB1.out.size)
  have hO1 : OwnI w2 w.heap.size (.slice (some ⟨g1, 0, none⟩) n1 cc1) n1 p := HO1.out.fr (fr_of_grown (S := []) hgrow2 (by intro k hk; cases hk)) (by simp)
  have hQ0 : OwnI w2 w.heap.size (.slice (some ⟨w1.heap.size, 0, none⟩) L L) L (fillFrom (quoF q d p L) L L) := by rw [fillFrom_top]; exact hown2.mono HB1.out.size
  have hgQ : g1 < w1.heap.size := hlt1
  have hQs : w1.heap.size < w2.heap.size := (hown2.lt w1.heap.size (by simp [Value.ownBlock])).2
  have hwQ : w.heap.size ≤ w1.heap.size := HB1.out.size
  clear hgrow2 hown2 HO1 HB1
  generalize w1.heap.size = Q at *
  go_wp2
  go_loopw [9] (fun s wr => ∃ k : Nat, k ≤ L ∧ s = .int .i64 ((k : Int) - 1) ∧ OwnI wr w.heap.size (.slice (some ⟨g1, 0, none⟩) n1 cc1) n1 (remN q d p L (L - k)) ∧ OwnI wr w.heap.size (.slice (some ⟨Q, 0, none⟩) L L) L (fillFrom (quoF q d p L) L k) ∧ Below w.heap.size w wr) (fun s _ => (intOf s + 1).toNat)
  case atStart => exact ⟨L, by omega, rfl, by rw [Nat.sub_self]; exact hO1, hQ0, hB2⟩
  case round =>
    clear hO1 hQ0 hB2
    obtain ⟨k, hk, rfl, hO, hQ, hB⟩ := hrel
    rcases Nat.eq_zero_or_pos k with h0 | h0
    · subst h0
      have hrl : (remN q d p L L).length = n1 := by rw [remN_length]; exact H1.out
      have hI := hO.ints
      rw [Nat.sub_zero] at hI
      go_wp2_with (go_at_call 86; refine (contains_any 88 #[] (fun x => x != 0) (fun _ => True) (some ⟨g1, 0, none⟩) n1 cc1 (remN q d p L L) _ enter88 (fun x _ => nonzero_any x _) hI hrl (by omega)).mono ?_; rintro e w' ⟨rfl, rfl⟩)
      go_ret2
      refine ⟨_, rfl, ?_, hB⟩
      rw [fillFrom_zero] at hQ
      simpa using hQ
    · obtain ⟨i, rfl⟩ : ∃ i, k = i + 1 := ⟨k - 1, by omega⟩
      rw [show (((i + 1 : Nat) : Int) - 1) = (i : Int) from by omega]
      have hrs : remN q d p L (L - i) = subAt q (quoF q d p L i) d i n2 (remN q d p L (L - (i + 1))) := by
        rw [show L - i = (L - (i + 1)) + 1 by omega, remN, H2.out, show L - 1 - (L - (i + 1)) = i by omega]
        unfold quoF
        rw [show L - 1 - i = L - (i + 1) by omega, H2.out]
      have hfs := fillFrom_set (quoF q d p L) L i
      have hqf : quoF q d p L i = (remN q d p L (L - (i + 1))).getD (i + n2 - 1) 0 := by
        unfold quoF; rw [show L - 1 - i = L - (i + 1) by omega, H2.out]
      have hrl : (remN q d p L (L - (i + 1))).length = n1 := by rw [remN_length]; exact H1.out
      have hre := remN_elem (q := q) (by omega) d hp L (L - (i + 1))
      have hi1 : i < L := by omega
      have hi2 : i + n2 - 1 < n1 := by have := HL.out; omega
      have hi3 : i + n2 ≤ n1 := by have := HL.out; omega
      have hIp := hO.get (k := i + n2 - 1) (by omega)
      have hqe : (remN q d p L (L - (i + 1)))[i + n2 - 1]'(by omega) = quoF q d p L i := by rw [hqf]; simp [List.getD, show i + n2 - 1 < (remN q d p L (L - (i + 1))).length by omega]
      rw [hqe] at hIp
      have hce := elem_get hre (k := i + n2 - 1) (by omega)
      rw [hqe] at hce
      clear hqe
      generalize remN q d p L (L - (i + 1)) = p1 at *
      have HQS := Lib.hid hfs
      generalize quoF q d p L i = c at *
      generalize fillFrom (quoF q d p L) L (i + 1) = q1 at *
      have HRS := Lib.hid hrs
      have HRL := Lib.hid hrl
      clear hrs hqf hrl hfs
      obtain ⟨hce1, hce2⟩ := hce
      obtain ⟨y0, hy0⟩ := hQ.cell (k := i) hi1
      have fq0 := hQ.frozen i
      have j1 : (0 : Int) ≤ (i : Int) := by omega
      have j2 : (i : Int) < (L : Int) := by omega
      have j3 : (i : Int) + (n2 : Int) - 1 < (n1 : Int) := by omega
      have j4 : (0 : Int) ≤ (i : Int) + (n2 : Int) - 1 := by omega
      have j5 : ((i : Int) + (n2 : Int) - 1).toNat = i + n2 - 1 := by omega
      have hQ2 := hQ.set i c
      have hO2 : OwnI (wr.setCell ⟨Q, i, none⟩ (.int .i64 c)) w.heap.size (.slice (some ⟨g1, 0, none⟩) n1 cc1) n1 p1 := hO.keep fun k hk => by
        simp only [Value.ownBlock, Option.some.injEq] at hk
        subst hk
        exact Below.heap_setCell _ _ _ _ (by simp; omega)
      have hB2 := hB.setCell (p := ⟨Q, i, none⟩) hwQ (.int .i64 c)
      clear hO hQ hB
      go_wp2
      go_loopw [42] (fun s wx => ∃ j : Nat, j ≤ n2 ∧ s = .int .i64 j ∧ OwnI wx w.heap.size (.slice (some ⟨g1, 0, none⟩) n1 cc1) n1 (subAt q c d i j p1) ∧ OwnI wx w.heap.size (.slice (some ⟨Q, 0, none⟩) L L) L (q1.set i c) ∧ Below w.heap.size w wx) (fun s _ => n2 - (intOf s).toNat)
      case atStart => exact ⟨0, by omega, rfl, by rw [subAt_zero]; exact hO2, hQ2, hB2⟩
      case round =>
        clear hO2 hQ2 hB2 hy0 fq0 hIp
        rename_i wo
        obtain ⟨j, hj, rfl, hO, hQ, hB⟩ := hrel
        by_cases hjl : j < n2
        · obtain ⟨b2, o2, he2, hlb, hcd⟩ := h2.get (k := j) (by rw [H2.out]; exact hjl)
          cases he2
          have hde := elem_get hd (k := j) (by rw [H2.out]; exact hjl)
          have hcd2 := (hB.cell (p := ⟨b2, o2 + j, none⟩) hlb).trans hcd
          have hgd : d.getD j 0 = d[j]'(by rw [H2.out]; exact hjl) := by simp [List.getD, show j < d.length by rw [H2.out]; exact hjl]
          generalize d[j]'(by rw [H2.out]; exact hjl) = dj at *
          have hij : i + j < p1.length := by rw [HRL.out]; omega
          have hcp := hO.get (k := i + j) (by rw [subAt_length]; exact hij)
          rw [subAt_at q c d i j p1 hij] at hcp
          have hpe : 0 ≤ p1.getD (i + j) 0 ∧ p1.getD (i + j) 0 < q := by
            have := elem_get hre hij
            simpa [List.getD, hij] using this
          have hcq : wr.cell? ⟨Q, i, none⟩ = some (.int .i64 c) := by
            have hl := hQ.len
            have := hQ.get (k := i) (by rw [hl]; exact hi1)
            simpa using this
          have hss := subAt_succ q c d i j p1
          rw [hgd] at hss
          generalize p1.getD (i + j) 0 = y at *
          have HSS := Lib.hid hss
          have HGD := Lib.hid hgd
          clear hss hgd hcd
          obtain ⟨hde1, hde2⟩ := hde
          obtain ⟨hpe1, hpe2⟩ := hpe
          have fpj := hO.frozen (i + j)
          have m1 : 0 ≤ c * dj % q := Int.emod_nonneg _ (by omega)
          have m2 : c * dj % q < q := Int.emod_lt_of_pos _ (by omega)
          have i1 : (0 : Int) ≤ (i : Int) + (j : Int) := by omega
          have i2 : (i : Int) + (j : Int) < (n1 : Int) := by omega
          have i3 : ((i : Int) + (j : Int)).toNat = i + j := by omega
          have i4 : IntKind.i64.wrap ((i : Int) + (j : Int)) = (i : Int) + (j : Int) := IntWalk.i64_in _ (by omega)
          have k1 : (0 : Int) ≤ (j : Int) := by omega
          have k2 : (j : Int) < (n2 : Int) := by omega
          have HI3 := Lib.hid i3
          have HI4 := Lib.hid i4
          clear i3 i4
          go_wp2
          have i3 := HI3.out
          have i4 := HI4.out
          refine Lex.wp_region_lex (fun w' => w'.cell? ⟨g1, i + j, none⟩ = some (.int .i64 y) ∧ w'.cell? ⟨Q, i, none⟩ = some (.int .i64 c)) (fun j => j != 20)
            [(0, true), (1, true), (2, true), (3, true), (4, true), (5, true), (6, true), (7, true), (8, true), (9, true), (10, true), (11, true), (12, true), (13, true), (14, true), (15, true), (16, true), (17, false), (18, false), (19, true), (20, false)]
            (by kernel_rfl) (by kernel_rfl) (by kernel_rfl) (by kernel_rfl) ⟨hcp, hcq⟩ ?_
          repeat (refine Lex.lex_take (v := ?_) rfl rfl (by rfl) (fun _ hS => ?_) ?_; rotate_left 1; (focus (go_split_ands; go_simp; with_reducible rfl)); simp only [List.setIfInBounds_toArray, List.set_cons_zero, List.set_cons_succ])
          refine Lex.lex_do rfl ?_
          go_wp2_with (go_at_call 78; refine (mul_any _ _ _ _ (by omega) ⟨hce1, by omega⟩ ⟨hde1, by omega⟩).mono ?_; rintro e w' ⟨rfl, rfl⟩)
          refine Lex.lexQ_normal (fun _ => ⟨hcp, hcq⟩) ?_
          refine Lex.lex_do rfl ?_
          go_wp2_with (go_at_call 77; refine (sub_any _ _ _ _ ⟨by omega, by omega⟩ ⟨hpe1, by omega⟩ ⟨m1, by omega⟩).mono ?_; rintro e w' ⟨rfl, rfl⟩)
          refine Lex.lexQ_normal (fun _ => ⟨hcp, hcq⟩) ?_
          repeat (refine Lex.lex_take (v := ?_) rfl rfl (by rfl) (fun _ hS => ?_) ?_; rotate_left 1; (focus (go_split_ands; go_simp; with_reducible rfl)); simp only [List.setIfInBounds_toArray, List.set_cons_zero, List.set_cons_succ])
          refine Lex.lex_do rfl ?_
          go_wp2_with fail
          refine Lex.lexQ_normal (fun h => absurd h (by decide)) ?_
          refine Lex.lex_nil ?_
          clear i3 i4
          have hO3 := hO.set (i + j) ((y - c * dj) % q)
          rw [HSS.out] at hO3
          have hQ3 : OwnI (wr.setCell ⟨g1, i + j, none⟩ (.int .i64 ((y - c * dj) % q))) w.heap.size (.slice (some ⟨Q, 0, none⟩) L L) L (q1.set i c) := hQ.keep fun k hk => by
            simp only [Value.ownBlock, Option.some.injEq] at hk
            subst hk
            exact Below.heap_setCell _ _ _ _ (by simp; omega)
          have HB3 := Lib.hid (hB.setCell (p := ⟨g1, i + j, none⟩) hg1 (.int .i64 ((y - c * dj) % q)))
          have HO3 := Lib.hid hO3
          have HQ3 := Lib.hid hQ3
          clear hO hQ hB hO3 hQ3 hcp hcq fpj
          go_wp2
          go_roundw
          case rel => exact ⟨j + 1, by omega, by go_num, HO3.out.drew, HQ3.out.drew, HB3.out.drew⟩
          case measure => simp [intOf]; omega
        · obtain rfl : j = n2 := by omega
          go_wp2
          go_roundw
          case rel => exact ⟨i, by omega, by go_num, by rw [HRS.out]; exact hO, by rw [← HQS.out]; exact hQ, hB⟩
          case measure => simp [intOf]
end Go.Proofs.Ytneliejncfncdaa
