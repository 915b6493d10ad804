/- A list of rows that grows; seal.mended. -/
import Derived.Test.YtneliejncfncdaaK
import Derived.Test.YtneliejncfncdaaM
namespace Go.Proofs.Ytneliejncfncdaa
open Go.RowKit

theorem Try.info22 : (Try.prog.info? 22).map (fun i => (i.zero, i.size, i.bytes)) = some (some (.slice none 0 0), 1, 24) := by kernel_rfl
theorem Try.underlying96 : Try.prog.underlying 96 = some (.slice 22) := by kernel_rfl

/-- The slice value v, of n rows, is the call's own (blocks from B on). -/
def RowsI (w : World) (B : Nat) (v : Value) (n : Nat) (rs : List (List Int)) : Prop :=
  rs.length = n ∧ ∃ vs : List Value, w.ownsRow B 22 1 v n vs ∧ ∀ (i : Nat) (r : List Int), rs[i]? = some r → ∃ x, vs[i]? = some x ∧ RowAt w v.ownBlock.toList x r

section
variable {w : World} {B n : Nat} {v : Value} {rs : List (List Int)}
theorem RowsI.nil (w : World) (B : Nat) : RowsI w B (.slice none 0 0) 0 [] := ⟨rfl, [], World.ownsRow_nil _ _ _ _, by intro i r h; simp at h⟩
theorem RowsI.lt (h : RowsI w B v n rs) : ∀ k, v.ownBlock = some k → B ≤ k ∧ k < w.heap.size := by
  obtain ⟨_, vs, h2, _⟩ := h
  exact World.ownsRow.lt h2
theorem RowsI.keep {w' : World} {S : List Nat} (h : RowsI w B v n rs) (hf : Fr S w w') (hS : ∀ k ∈ S, k < w.heap.size → False) : RowsI w' B v n rs := by
  obtain ⟨h1, vs, ho, h3⟩ := h
  refine ⟨h1, vs, ?_, fun i r hi => ?_⟩
  · have hl := World.ownsRow.lt ho
    refine ⟨ho.1, ?_⟩
    rcases ho.2 with h' | ⟨g, cap, cur, e1, e2, e3, e4⟩
    · exact .inl h'
    · have := hl g (by rw [e1]; rfl)
      exact .inr ⟨g, cap, cur, e1, e2, (hf.block g this.2 (fun hm => hS g hm this.2)).trans e3, e4⟩
  · obtain ⟨x, hx, hr⟩ := h3 i r hi
    exact ⟨x, hx, hr.fr hf (fun k hk hl => (hS k hk hl).elim)⟩
theorem RowsI.below {w' : World} (h : RowsI w B v n rs) (hb : Below w.heap.size w w') : RowsI w' B v n rs := h.keep (fr_of_below hb []) (by simp)
theorem RowsI.alloc (h : RowsI w B v n rs) (o : Obj) : RowsI (w.alloc o) B v n rs := h.below ((Below.refl _ _).alloc (Nat.le_refl _) o)
theorem RowsI.drewN (h : RowsI w B v n rs) (k : Nat) : RowsI (w.drewN k) B v n rs := h
theorem RowsI.mat (h : RowsI w B v n rs) (hn : 0 < n) : ∃ R cap, v = .slice (some ⟨R, 0, none⟩) n cap ∧ B ≤ R ∧ Mat w [R] R cap rs := by
  obtain ⟨h1, vs, ho, h3⟩ := h
  rcases ho.2 with ⟨_, h0⟩ | ⟨g, cap, cur, e1, e2, e3, e4, e5, e6, e7⟩
  · omega
  · subst e1
    refine ⟨g, cap, rfl, e2, by simp, by omega, e5, cur, e3, by omega, fun i r hi => ?_⟩
    obtain ⟨x, hx, hr⟩ := h3 i r hi
    refine ⟨x, ?_, by simpa [Value.ownBlock] using hr⟩
    rw [← e7] at hx
    have hi2 : i < n := by
      have := (List.getElem?_eq_some_iff.1 hi).1
      omega
    rw [List.getElem?_take_of_lt (by omega)] at hx
    simpa using hx
end

/-- append of one row, at a plain region's list. -/
theorem run_row {ops : Array Oper} {rest : List Oper} {o : Oper} {a : Act} {Q : Exit → Act → World → Prop} (w : World) (hgd : o.guard = none) (s x : Operand)
    (ho : o.op = .call { callee := .builtin .append, args := #[s, x], argTypes := #[96, 96] })
    (base : Nat) (v : Value) (n : Nat) (rs : List (List Int)) (hs : a.eval s = v) (hown : RowsI w base v n rs)
    (H0 : Nat) (y : Value) (r : List Int) (hx : a.eval x = .slice (some ⟨H0, 0, none⟩) 1 1) (hblk : w.heap[H0]? = some (.cells #[y] 22 (0, 0)))
    (hy : RowAt w v.ownBlock.toList y r)
    (hn : n ≤ 1000000) (hbase : base ≤ w.heap.size) (H : Nat) (hH : w.heap.size = H)
    (h : ∀ g cap w', RowsI w' base (.slice (some ⟨g, 0, none⟩) (n + 1) cap) (n + 1) (rs ++ [r]) → w.grownBy w' v.ownBlock → (v.ownBlock = some g ∨ g = H) → g < w'.heap.size → wpList Try.prog ops Q rest (a.put o.dst (.slice (some ⟨g, 0, none⟩) (n + 1) cap)) w') : wpList Try.prog ops Q (o :: rest) a w := by
  obtain ⟨i0, hi0, hz0, hz1, hz2⟩ := info_parts Try.info22
  obtain ⟨h1, vs, ho1, h3⟩ := hown
  have hy1 : y.oneCell' = true := by obtain ⟨b, off, c, rfl, _⟩ := hy; rfl
  have hlt := World.ownsRow.lt ho1
  refine wpList_append_lies _ hgd s x 96 ho base 22 i0 _ 1 24 Try.underlying96 hi0 hz0 hz1 hz2 rfl (by omega) v n _ hs ho1 ⟨H0, 0, none⟩ 1 1 [y] hx rfl (World.news_of_block (cs := #[y]) hblk) (by simpa using hy1)
    (by omega) (by unfold maxLen; omega) (by omega) hbase H hH ?_
  intro g cap w1 hown1 hgr hat hg
  refine h g cap w1 ⟨by simp [h1], _, hown1, ?_⟩ hgr hat hg
  have hvl : vs.length = n := by have := ho1.1; omega
  have hfr : Fr v.ownBlock.toList w w1 := fr_of_grown hgr (by intro k hk _; simp [hk])
  have key : ∀ (z : Value) (s : List Int), RowAt w v.ownBlock.toList z s → RowAt w1 [g] z s := by
    rintro z s ⟨b, off, c, e1, e2, e3, e4⟩
    refine ⟨b, off, c, e1, ?_, Nat.lt_of_lt_of_le e3 hfr.size, At.fr e4 hfr (fun a ha => by cases ha; exact e2)⟩
    rcases hat with hat | hat
    · rw [hat] at e2; simpa using e2
    · simp; omega
  intro i s hi
  rw [List.getElem?_append] at hi
  split at hi
  · rename_i hlt2
    obtain ⟨z, hz, hr⟩ := h3 i s hi
    exact ⟨z, by rw [List.getElem?_append_left (by omega)]; exact hz, key z s hr⟩
  · rename_i hlt2
    have : i = n := by
      by_cases e : i = n
      · exact e
      · rw [List.getElem?_eq_none (by simp; omega)] at hi; cases hi
    subst this
    rw [show i - rs.length = 0 by omega] at hi
    cases hi
    exact ⟨y, by rw [List.getElem?_append_right (by omega), hvl]; simp, key y _ hy⟩

/-- A part of an owned row, from its beginning. -/
theorem OwnI.take {w : World} {base n g cap : Nat} {xs : List Int} (h : OwnI w base (.slice (some ⟨g, 0, none⟩) n cap) n xs) (m : Nat) (hm : m ≤ n) :
    OwnI w base (.slice (some ⟨g, 0, none⟩) m cap) m (xs.take m) := by
  have hl := h.len
  refine ⟨by simp; omega, ?_⟩
  rcases h.2 with ⟨h', _⟩ | ⟨g', cap', cur, e1, e2, e3, e4, e5, e6, e7⟩
  · cases h'
  · cases e1
    refine .inr ⟨g, cap, cur, rfl, e2, e3, by omega, e5, e6, ?_⟩
    rw [List.map_take, ← e7, List.take_take, Nat.min_eq_left (by omega), Nat.mul_one]
theorem OwnI.capLe {w : World} {base n g cap : Nat} {xs : List Int} (h : OwnI w base (.slice (some ⟨g, 0, none⟩) n cap) n xs) : n ≤ cap ∧ cap ≤ maxLen := by
  rcases h.2 with ⟨h', _⟩ | ⟨g', cap', cur, e1, e2, e3, e4, e5, e6, e7⟩
  · cases h'
  · cases e1; exact ⟨e4, e5⟩

/-- The factors of the places. -/
def negs (q x y : Int) (n : Nat) : List Int := (List.range n).map fun j => (0 - y * pw q x j % q) % q
theorem negs_succ (q x y : Int) (n : Nat) : negs q x y (n + 1) = negs q x y n ++ [(0 - y * pw q x n % q) % q] := by simp [negs, List.range_succ]
/-- y times a power. -/
def hi (q x y : Int) : Nat → Int
  | 0 => y
  | n + 1 => hi q x y n * x % q
theorem hi_bd {q x y : Int} (hq : 1 ≤ q) (hy : 0 ≤ y ∧ y < q) : ∀ n, 0 ≤ hi q x y n ∧ hi q x y n < q
  | 0 => hy
  | _ + 1 => ⟨Int.emod_nonneg _ (by omega), Int.emod_lt_of_pos _ (by omega)⟩
/-- A row of Berlekamp and Welch. -/
def bwRow (q : Int) (k t : Nat) (x y : Int) : List Int := pwl q x (t + k) ++ negs q x y t ++ [hi q x y t]
def bwRows (q : Int) (word : List Int) (k t : Nat) (n : Nat) : List (List Int) := (List.range n).map fun (x : Nat) => bwRow q k t x (word.getD x 0)
theorem bwRows_succ (q : Int) (word : List Int) (k t n : Nat) : bwRows q word k t (n + 1) = bwRows q word k t n ++ [bwRow q k t n (word.getD n 0)] := by simp [bwRows, List.range_succ]
theorem bwRows_length (q : Int) (word : List Int) (k t n : Nat) : (bwRows q word k t n).length = n := by simp [bwRows]
theorem negs_length (q x y : Int) (n : Nat) : (negs q x y n).length = n := by simp [negs]
theorem bwRow_length (q : Int) (k t : Nat) (x y : Int) : (bwRow q k t x y).length = 2 * t + k + 1 := by simp [bwRow, pwl_length, negs_length]; omega
theorem bwRow_elem {q : Int} (hq : 2 ≤ q) (k t : Nat) (x y : Int) (hy : 0 ≤ y ∧ y < q) : ∀ (j : Nat) (z : Int), (bwRow q k t x y)[j]? = some z → 0 ≤ z ∧ z < q := by
  intro j z hz
  have hm := List.mem_of_getElem? hz
  simp only [bwRow, pwl, negs, List.mem_append, List.mem_map, List.mem_singleton] at hm
  rcases hm with (⟨i, _, rfl⟩ | ⟨i, _, rfl⟩) | rfl
  · exact pw_bd hq i
  · exact ⟨Int.emod_nonneg _ (by omega), Int.emod_lt_of_pos _ (by omega)⟩
  · exact hi_bd (by omega) hy t
theorem bwRows_good {q : Int} (hq : 2 ≤ q) (word : List Int) (hw : elemB q word = true) (k t n : Nat) : Good q (2 * t + k + 1) (bwRows q word k t n) := by
  intro i r hi
  simp only [bwRows, List.getElem?_map] at hi
  obtain ⟨m, hm, rfl⟩ := Option.map_eq_some_iff.1 hi
  refine ⟨bwRow_length _ _ _ _ _, bwRow_elem hq k t _ _ ?_⟩
  simp only [List.getD]
  cases h : word[m]? with
  | none => simp; omega
  | some x => exact (elemB_iff' q word).1 hw m x h
end Go.Proofs.Ytneliejncfncdaa
