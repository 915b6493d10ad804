/- Texts N O in one. -/
import Derived.Test.YtneliejncfncdaaPkK
import Derived.Test.YtneliejncfncdaaPkJ
namespace Go.Proofs.Ytneliejncfncdaa
open Go.RowKit

theorem Try.info22 : (Try.prog.info? 22).map (fun i => (i.zero, i.size, i.bytes)) = some (some (.slice none 0 0), 1, 24) := by kernel_rfl
theorem Try.underlying96 : Try.prog.underlying 96 = some (.slice 22) := by kernel_rfl

/-- The slice value v, of n rows, is the call's own (blocks from B on). -/
def RowsI (w : World) (B : Nat) (v : Value) (n : Nat) (rs : List (List Int)) : Prop :=
  rs.length = n ∧ ∃ vs : List Value, w.ownsRow B 22 1 v n vs ∧ ∀ (i : Nat) (r : List Int), rs[i]? = some r → ∃ x, vs[i]? = some x ∧ RowAt w v.ownBlock.toList x r

section
variable {w : World} {B n : Nat} {v : Value} {rs : List (List Int)}
theorem RowsI.nil (w : World) (B : Nat) : RowsI w B (.slice none 0 0) 0 [] := ⟨rfl, [], World.ownsRow_nil _ _ _ _, by intro i r h; simp at h⟩
theorem RowsI.lt (h : RowsI w B v n rs) : ∀ k, v.ownBlock = some k → B ≤ k ∧ k < w.heap.size := by
  obtain ⟨_, vs, h2, _⟩ := h
  exact World.ownsRow.lt h2
theorem RowsI.keep {w' : World} {S : List Nat} (h : RowsI w B v n rs) (hf : Fr S w w') (hS : ∀ k ∈ S, k < w.heap.size → False) : RowsI w' B v n rs := by
  obtain ⟨h1, vs, ho, h3⟩ := h
  refine ⟨h1, vs, ?_, fun i r hi => ?_⟩
  · have hl := World.ownsRow.lt ho
    refine ⟨ho.1, ?_⟩
    rcases ho.2 with h' | ⟨g, cap, cur, e1, e2, e3, e4⟩
    · exact .inl h'
    · have := hl g (by rw [e1]; rfl)
      exact .inr ⟨g, cap, cur, e1, e2, (hf.block g this.2 (fun hm => hS g hm this.2)).trans e3, e4⟩
  · obtain ⟨x, hx, hr⟩ := h3 i r hi
    exact ⟨x, hx, hr.fr hf (fun k hk hl => (hS k hk hl).elim)⟩
theorem RowsI.below {w' : World} (h : RowsI w B v n rs) (hb : Below w.heap.size w w') : RowsI w' B v n rs := h.keep (fr_of_below hb []) (by simp)
theorem RowsI.alloc (h : RowsI w B v n rs) (o : Obj) : RowsI (w.alloc o) B v n rs := h.below ((Below.refl _ _).alloc (Nat.le_refl _) o)
theorem RowsI.drewN (h : RowsI w B v n rs) (k : Nat) : RowsI (w.drewN k) B v n rs := h
theorem RowsI.mat (h : RowsI w B v n rs) (hn : 0 < n) : ∃ R cap, v = .slice (some ⟨R, 0, none⟩) n cap ∧ B ≤ R ∧ Mat w [R] R cap rs := by
  obtain ⟨h1, vs, ho, h3⟩ := h
  rcases ho.2 with ⟨_, h0⟩ | ⟨g, cap, cur, e1, e2, e3, e4, e5, e6, e7⟩
  · omega
  · subst e1
    refine ⟨g, cap, rfl, e2, by simp, by omega, e5, cur, e3, by omega, fun i r hi => ?_⟩
    obtain ⟨x, hx, hr⟩ := h3 i r hi
    refine ⟨x, ?_, by simpa [Value.ownBlock] using hr⟩
    rw [← e7] at hx
    have hi2 : i < n := by
      have := (List.getElem?_eq_some_iff.1 hi).1
      omega
    rw [List.getElem?_take_of_lt (by omega)] at hx
    simpa using hx
end

/-- append of one row, at a plain region's list. -/
theorem run_row {ops : Array Oper} {rest : List Oper} {o : Oper} {a : Act} {Q : Exit → Act → World → Prop} (w : World) (hgd : o.guard = none) (s x : Operand)
    (ho : o.op = .call { callee := .builtin .append, args := #[s, x], argTypes := #[96, 96] })
    (base : Nat) (v : Value) (n : Nat) (rs : List (List Int)) (hs : a.eval s = v) (hown : RowsI w base v n rs)
    (H0 : Nat) (y : Value) (r : List Int) (hx : a.eval x = .slice (some ⟨H0, 0, none⟩) 1 1) (hblk : w.heap[H0]? = some (.cells #[y] 22 (0, 0)))
    (hy : RowAt w v.ownBlock.toList y r)
    (hn : n ≤ 1000000) (hbase : base ≤ w.heap.size) (H : Nat) (hH : w.heap.size = H)
    (h : ∀ g cap w', RowsI w' base (.slice (some ⟨g, 0, none⟩) (n + 1) cap) (n + 1) (rs ++ [r]) → w.grownBy w' v.ownBlock → (v.ownBlock = some g ∨ g = H) → g < w'.heap.size → wpList Try.prog ops Q rest (a.put o.dst (.slice (some ⟨g, 0, none⟩) (n + 1) cap)) w') : wpList Try.prog ops Q (o :: rest) a w := by
  obtain ⟨i0, hi0, hz0, hz1, hz2⟩ := info_parts Try.info22
  obtain ⟨h1, vs, ho1, h3⟩ := hown
  have hy1 : y.oneCell' = true := by obtain ⟨b, off, c, rfl, _⟩ := hy; rfl
  have hlt := World.ownsRow.lt ho1
  refine wpList_append_lies _ hgd s x 96 ho base 22 i0 _ 1 24 Try.underlying96 hi0 hz0 hz1 hz2 rfl (by omega) v n _ hs ho1 ⟨H0, 0, none⟩ 1 1 [y] hx rfl (World.news_of_block (cs := #[y]) hblk) (by simpa using hy1)
    (by omega) (by unfold maxLen; omega) (by omega) hbase H hH ?_
  intro g cap w1 hown1 hgr hat hg
  refine h g cap w1 ⟨by simp [h1], _, hown1, ?_⟩ hgr hat hg
  have hvl : vs.length = n := by have := ho1.1; omega
  have hfr : Fr v.ownBlock.toList w w1 := fr_of_grown hgr (by intro k hk _; simp [hk])
  have key : ∀ (z : Value) (s : List Int), RowAt w v.ownBlock.toList z s → RowAt w1 [g] z s := by
    rintro z s ⟨b, off, c, e1, e2, e3, e4⟩
    refine ⟨b, off, c, e1, ?_, Nat.lt_of_lt_of_le e3 hfr.size, At.fr e4 hfr (fun a ha => by cases ha; exact e2)⟩
    rcases hat with hat | hat
    · rw [hat] at e2; simpa using e2
    · simp; omega
  intro i s hi
  rw [List.getElem?_append] at hi
  split at hi
  · rename_i hlt2
    obtain ⟨z, hz, hr⟩ := h3 i s hi
    exact ⟨z, by rw [List.getElem?_append_left (by omega)]; exact hz, key z s hr⟩
  · rename_i hlt2
    have : i = n := by
      by_cases e : i = n
      · exact e
      · rw [List.getElem?_eq_none (by simp; omega)] at hi; cases hi
    subst this
    rw [show i - rs.length = 0 by omega] at hi
    cases hi
    exact ⟨y, by rw [List.getElem?_append_right (by omega), hvl]; simp, key y _ hy⟩

/-- A part of an owned row, from its beginning. -/
theorem OwnI.take {w : World} {base n g cap : Nat} {xs : List Int} (h : OwnI w base (.slice (some ⟨g, 0, none⟩) n cap) n xs) (m : Nat) (hm : m ≤ n) :
    OwnI w base (.slice (some ⟨g, 0, none⟩) m cap) m (xs.take m) := by
  have hl := h.len
  refine ⟨by simp; omega, ?_⟩
  rcases h.2 with ⟨h', _⟩ | ⟨g', cap', cur, e1, e2, e3, e4, e5, e6, e7⟩
  · cases h'
  · cases e1
    refine .inr ⟨g, cap, cur, rfl, e2, e3, by omega, e5, e6, ?_⟩
    rw [List.map_take, ← e7, List.take_take, Nat.min_eq_left (by omega), Nat.mul_one]
theorem OwnI.capLe {w : World} {base n g cap : Nat} {xs : List Int} (h : OwnI w base (.slice (some ⟨g, 0, none⟩) n cap) n xs) : n ≤ cap ∧ cap ≤ maxLen := by
  rcases h.2 with ⟨h', _⟩ | ⟨g', cap', cur, e1, e2, e3, e4, e5, e6, e7⟩
  · cases h'
  · cases e1; exact ⟨e4, e5⟩

/-- The factors of the places. -/
def negs (q x y : Int) (n : Nat) : List Int := (List.range n).map fun j => (0 - y * pw q x j % q) % q
theorem negs_succ (q x y : Int) (n : Nat) : negs q x y (n + 1) = negs q x y n ++ [(0 - y * pw q x n % q) % q] := by simp [negs, List.range_succ]
/-- y times a power. -/
def hi (q x y : Int) : Nat → Int
  | 0 => y
  | n + 1 => hi q x y n * x % q
theorem hi_bd {q x y : Int} (hq : 1 ≤ q) (hy : 0 ≤ y ∧ y < q) : ∀ n, 0 ≤ hi q x y n ∧ hi q x y n < q
  | 0 => hy
  | _ + 1 => ⟨Int.emod_nonneg _ (by omega), Int.emod_lt_of_pos _ (by omega)⟩
/-- A row of Berlekamp and Welch. -/
def bwRow (q : Int) (k t : Nat) (x y : Int) : List Int := pwl q x (t + k) ++ negs q x y t ++ [hi q x y t]
def bwRows (q : Int) (word : List Int) (k t : Nat) (n : Nat) : List (List Int) := (List.range n).map fun (x : Nat) => bwRow q k t x (word.getD x 0)
theorem bwRows_succ (q : Int) (word : List Int) (k t n : Nat) : bwRows q word k t (n + 1) = bwRows q word k t n ++ [bwRow q k t n (word.getD n 0)] := by simp [bwRows, List.range_succ]
theorem bwRows_length (q : Int) (word : List Int) (k t n : Nat) : (bwRows q word k t n).length = n := by simp [bwRows]
theorem negs_length (q x y : Int) (n : Nat) : (negs q x y n).length = n := by simp [negs]
theorem bwRow_length (q : Int) (k t : Nat) (x y : Int) : (bwRow q k t x y).length = 2 * t + k + 1 := by simp [bwRow, pwl_length, negs_length]; omega
theorem bwRow_elem {q : Int} (hq : 2 ≤ q) (k t : Nat) (x y : Int) (hy : 0 ≤ y ∧ y < q) : ∀ (j : Nat) (z : Int), (bwRow q k t x y)[j]? = some z → 0 ≤ z ∧ z < q := by
  intro j z hz
  have hm := List.mem_of_getElem? hz
  simp only [bwRow, pwl, negs, List.mem_append, List.mem_map, List.mem_singleton] at hm
  rcases hm with (⟨i, _, rfl⟩ | ⟨i, _, rfl⟩) | rfl
  · exact pw_bd hq i
  · exact ⟨Int.emod_nonneg _ (by omega), Int.emod_lt_of_pos _ (by omega)⟩
  · exact hi_bd (by omega) hy t
theorem bwRows_good {q : Int} (hq : 2 ≤ q) (word : List Int) (hw : elemB q word = true) (k t n : Nat) : Good q (2 * t + k + 1) (bwRows q word k t n) := by
  intro i r hi
  simp only [bwRows, List.getElem?_map] at hi
  obtain ⟨m, hm, rfl⟩ := Option.map_eq_some_iff.1 hi
  refine ⟨bwRow_length _ _ _ _ _, bwRow_elem hq k t _ _ ?_⟩
  simp only [List.getD]
  cases h : word[m]? with
  | none => simp; omega
  | some x => exact (elemB_iff' q word).1 hw m x h
end Go.Proofs.Ytneliejncfncdaa

namespace Go.Proofs.Ytneliejncfncdaa
open Go.RowKit

/-- What the equations of Berlekamp and Welch give. -/
def bwSt (q : Int) (word : List Int) (k t : Nat) : St := steps (pwf q) q (bwRows q word k t word.length) (2 * t + k) (2 * t + k)
def bwL (q : Int) (word : List Int) (k t : Nat) : List Int := outOf (bwSt q word k t) (2 * t + k)
def bwOk (q : Int) (word : List Int) (k t : Nat) : Bool := okOf (bwSt q word k t) (2 * t + k)
def bwE (q : Int) (word : List Int) (k t : Nat) : List Int := (bwL q word k t).drop (t + k) ++ [1]
def bwQ (q : Int) (word : List Int) (k t : Nat) : List Int := (bwL q word k t).take (t + k)
def mendP (q : Int) (word : List Int) (k t : Nat) : List Int := (List.range k).map (quoF q (bwE q word k t) (bwQ q word k t) k)
def mendOk (q : Int) (word : List Int) (k t : Nat) : Bool := bwOk q word k t && !(remN q (bwE q word k t) (bwQ q word k t) k k).any (· != 0)

def RetMend (q : Int) (word : List Int) (k t : Nat) (w : World) (e : Ending) (w' : World) : Prop :=
  ∃ v, e = .returned (.tuple #[v, .bool (mendOk q word k t)]) ∧ Below w.heap.size w w' ∧ (mendOk q word k t = true → OwnI w' w.heap.size v k (mendP q word k t))

theorem outOf_length (st : St) (u : Nat) : (outOf st u).length = u := by simp [outOf]
theorem outOf_elem {q : Int} {n : Nat} (hq : 1 ≤ q) {st : St} (hg : Good q n st.rs) (u : Nat) : elemB q (outOf st u) = true := by
  refine (elemB_iff' _ _).2 fun j x hx => ?_
  simp only [outOf, List.getElem?_map] at hx
  obtain ⟨m, hm, rfl⟩ := Option.map_eq_some_iff.1 hx
  split
  · exact hg.el hq _ _
  · exact ⟨Int.le_refl _, by omega⟩
theorem elemB_take {q : Int} {xs : List Int} (h : elemB q xs = true) (n : Nat) : elemB q (xs.take n) = true := by
  refine (elemB_iff' _ _).2 fun j x hx => ?_
  rw [List.getElem?_take] at hx
  split at hx
  · exact (elemB_iff' q xs).1 h j x hx
  · cases hx
theorem elemB_drop {q : Int} {xs : List Int} (h : elemB q xs = true) (n : Nat) : elemB q (xs.drop n) = true := by
  refine (elemB_iff' _ _).2 fun j x hx => ?_
  rw [List.getElem?_drop] at hx
  exact (elemB_iff' q xs).1 h _ x hx
theorem elemB_append {q : Int} {xs ys : List Int} (h : elemB q xs = true) (g : elemB q ys = true) : elemB q (xs ++ ys) = true := by
  unfold elemB at *
  simp only [List.all_append, h, g, Bool.and_true]
theorem Ints.drop {w : World} {b off : Nat} {xs : List Int} (h : Ints w (some ⟨b, off, none⟩) xs) (n : Nat) : Ints w (some ⟨b, off + n, none⟩) (xs.drop n) := by
  rcases h with h | ⟨b', off', hA, hb, hc⟩
  · have : xs = [] := by simpa using h
    subst this
    exact .inl (by simp)
  · cases hA
    refine .inr ⟨b, off + n, rfl, hb, fun j v hv => ?_⟩
    have := hc (n + j) v (by simpa [List.getElem?_drop] using hv)
    rw [show off + n + j = off + (n + j) by omega]
    exact this


set_option maxRecDepth 100000 in
set_option maxHeartbeats 3200000 in
theorem mended_any (q : Int) (k t n : Nat) (A : Option Addr) (c : Nat) (word : List Int) (w : World) (hq : 2 ≤ q ∧ q ≤ 31) (hw : elemB q word = true) (hA : Ints w A word) (hn : word.length = n) (hnb : n ≤ 31)
    (hk : 1 ≤ k) (ht : 2 * t + k ≤ n) : Calls Try.prog 61 #[.int .i64 q, .slice A n c, .int .i64 k, .int .i64 t] w (RetMend q word k t w) := by
  obtain ⟨hq1, hq2⟩ := hq
  have HN := Lib.hid hn
  clear hn
  have htk : (t : Int) + (k : Int) ≤ 31 := by omega
  have hwt : IntKind.i64.wrap ((t : Int) + (k : Int)) = (t : Int) + (k : Int) := IntWalk.i64_in _ (by omega)
  go_enter Try.func61, Try.ntmps61
  go_wp2
  go_loopw [10, 23] (fun s i wr => ∃ m : Nat, m ≤ n ∧ i = .int .i64 m ∧ RowsI wr w.heap.size s m (bwRows q word k t m) ∧ Below w.heap.size w wr) (fun _ i _ => n - (intOf i).toNat)
  case atStart => exact ⟨0, by omega, rfl, RowsI.nil _ _, Below.refl _ _⟩
  case round =>
    obtain ⟨m, hm, rfl, hR, hB⟩ := hrel
    by_cases hmn : m < n
    · obtain ⟨b, off, rfl, hblt, hcell⟩ := hA.get (k := m) (by rw [HN.out]; exact hmn)
      have hye := elem_get hw (k := m) (by rw [HN.out]; exact hmn)
      have hyd : word.getD m 0 = word[m]'(by rw [HN.out]; exact hmn) := by simp [List.getD, show m < word.length by rw [HN.out]; exact hmn]
      generalize word[m]'(by rw [HN.out]; exact hmn) = y at *
      have hcy := (hB.cell (p := ⟨b, off + m, none⟩) hblt).trans hcell
      have hrs := bwRows_succ q word k t m
      rw [hyd] at hrs
      have HRS := Lib.hid hrs
      clear hrs hyd hcell
      obtain ⟨hy1, hy2⟩ := hye
      have cp1 : ∀ W, Calls Try.prog 71 #[.int .i64 q, .int .i64 m, .int .i64 ((t : Int) + (k : Int)), .int .i64 0] W (RetOwn (pwl q m (t + k) ++ [0]) W) := fun W => by
        have := powers_any q m 0 (t + k) W ⟨hq1, hq2⟩ ⟨by omega, by omega⟩ (by omega)
        rwa [Int.natCast_add] at this
      have cp2 : ∀ W, Calls Try.prog 71 #[.int .i64 q, .int .i64 m, .int .i64 t, .int .i64 0] W (RetOwn (pwl q m t ++ [0]) W) := fun W => powers_any q m 0 t W ⟨hq1, hq2⟩ ⟨by omega, by omega⟩ (by omega)
      go_wp2_with fail
      refine (cp1 _).mono ?_
      rintro e w1 ⟨v1, rfl, ho1, hb1⟩
      simp only [List.length_append, pwl_length, List.length_singleton] at ho1
      obtain ⟨g1, cc1, rfl, hg1, hg1'⟩ := ho1.form (by omega)
      have hcap1 := ho1.capLe
      obtain ⟨hcap1a, hcap1b⟩ := hcap1
      clear cp1
      go_wp2_with fail
      refine (cp2 _).mono ?_
      rintro e w2 ⟨v2, rfl, ho2, hb2⟩
      simp only [List.length_append, pwl_length, List.length_singleton] at ho2
      obtain ⟨g2, cc2, rfl, hg2, hg2'⟩ := ho2.form (by omega)
      have hcap2 := ho2.capLe
      obtain ⟨hcap2a, hcap2b⟩ := hcap2
      clear cp2
      have hO1 : OwnI w2 wr.heap.size (.slice (some ⟨g1, 0, none⟩) (t + k) cc1) (t + k) (pwl q m (t + k)) := by
        have := (ho1.take (t + k) (by omega)).below hb2
        rwa [List.take_left' (pwl_length _ _ _)] at this
      have hB2 : Below wr.heap.size wr w2 := hb1.trans (hb2.mono hb1.size)
      have hsz := hB.size
      have hsz2 := hB2.size
      have hsz1 := hb1.size
      clear ho1 hb1 hb2 hcy hblt
      go_wp2_with fail
      obtain ⟨wo, rfl⟩ : ∃ wo, wo = wr := ⟨_, rfl⟩
      go_loopw [13, 45] (fun d j wx => ∃ z : Nat, z ≤ t ∧ j = .int .i64 z ∧ OwnI wx wo.heap.size d (t + k + z) (pwl q m (t + k) ++ negs q m y z) ∧ OwnI wx w1.heap.size (.slice (some ⟨g2, 0, none⟩) (t + 1) cc2) (t + 1) (pwl q m t ++ [0]) ∧ (∀ b, d.ownBlock = some b → b ≠ g2) ∧ Below wo.heap.size wo wx) (fun _ j _ => t - (intOf j).toNat)
      case atStart => exact ⟨0, by omega, rfl, by simpa [negs] using hO1, ho2, by intro b hb; simp [Value.ownBlock] at hb; omega, hB2⟩
      case round =>
        clear hO1 ho2 hB2
        obtain ⟨z, hz, rfl, hO, hP, hne, hBx⟩ := hrel
        have hszx := hBx.size
        have hgx := (hP.lt g2 (by simp [Value.ownBlock])).2
        by_cases hzt : z < t
        · have hcz := hP.get (k := z) (by simp [pwl_length]; omega)
          have hpe : (pwl q m t ++ [0])[z]'(by simp [pwl_length]; omega) = pw q m z := by
            rw [List.getElem_append_left (by rw [pwl_length]; omega)]
            simp [pwl]
          rw [hpe] at hcz
          have hns := negs_succ q m y z
          have hpb := pw_bd (q := q) (a := (m : Int)) (by omega) z
          clear hpe
          generalize pw q m z = p at *
          obtain ⟨hpb1, hpb2⟩ := hpb
          obtain ⟨m1, hm1⟩ : ∃ m1, m1 = y * p % q := ⟨_, rfl⟩
          have hm1a : 0 ≤ m1 := by rw [hm1]; exact Int.emod_nonneg _ (by omega)
          have hm1b : m1 < q := by rw [hm1]; exact Int.emod_lt_of_pos _ (by omega)
          obtain ⟨m2, hm2⟩ : ∃ m2, m2 = (0 - m1) % q := ⟨_, rfl⟩
          have c1 : ∀ W, Calls Try.prog 78 #[.int .i64 q, .int .i64 y, .int .i64 p] W fun e w' => e = .returned (.int .i64 m1) ∧ W = w' := fun W => by
            rw [hm1]; exact (mul_any _ _ _ _ (by omega) ⟨hy1, by omega⟩ ⟨hpb1, by omega⟩).mono fun e w' h => ⟨h.1, h.2.symm⟩
          have c2 : ∀ W, Calls Try.prog 77 #[.int .i64 q, .int .i64 0, .int .i64 m1] W fun e w' => e = .returned (.int .i64 m2) ∧ W = w' := fun W => by
            rw [hm2]; exact (sub_any _ _ _ _ ⟨by omega, by omega⟩ ⟨by omega, by omega⟩ ⟨hm1a, by omega⟩).mono fun e w' h => ⟨h.1, h.2.symm⟩
          rw [← hm1, ← hm2] at hns
          have HNS := Lib.hid hns
          clear hns hm1 hm2
          go_wp2_with (first | (go_at_call 78; refine (c1 _).mono ?_; rintro e w' ⟨rfl, rfl⟩) | (go_at_call 77; refine (c2 _).mono ?_; rintro e w' ⟨rfl, rfl⟩) | (at_builtin; refine wpList_int _ rfl _ _ rfl wo.heap.size _ (t + k + z) _ rfl (hO.alloc _) wr.heap.size m2 rfl (heap_alloc_new wr _) (by omega) (by simp; omega) (wr.heap.size + 1) (by simp) ?_))
          intro g3 cap3 w3 hO3 hgr3 hat3 hlt3
          have hB3 := (hBx.alloc hszx (.cells #[.int .i64 m2] 3)).grown hgr3 (by simp; omega) (fun g hg => (hO.lt g hg).1)
          have hP3 := (hP.alloc (.cells #[.int .i64 m2] 3)).keep (w' := w3) fun b hb => by
            simp only [Value.ownBlock, Option.some.injEq] at hb
            subst hb
            exact hgr3.block g2 (by simp; omega) (fun h => hne g2 h.symm rfl)
          have hne3 : ∀ b, (Value.slice (some ⟨g3, 0, none⟩) (t + k + z + 1) cap3).ownBlock = some b → b ≠ g2 := by
            intro b hb
            simp only [Value.ownBlock, Option.some.injEq] at hb
            subst hb
            rcases hat3 with h | h
            · exact hne g3 h
            · omega
          have HO3 := Lib.hid hO3
          have HP3 := Lib.hid hP3
          have HB3 := Lib.hid hB3
          have HNE := Lib.hid hne3
          clear hO hP hne hBx hO3 hP3 hB3 hgr3 hat3 hne3 hcz
          go_wp2
          go_roundw
          case rel => exact ⟨z + 1, by omega, by go_num, by rw [HNS.out]; exact HO3.out, HP3.out, HNE.out, HB3.out⟩
          case measure => simp [intOf]; omega
        · obtain rfl : z = t := by omega
          have hhb := fun j => hi_bd (q := q) (x := (m : Int)) (y := y) (by omega) ⟨hy1, by omega⟩ j
          go_wp2_with fail
          obtain ⟨wi, rfl⟩ : ∃ wi, wi = wr := ⟨_, rfl⟩
          go_loopw [16, 61] (fun s j wx => wx = wi ∧ ∃ j' : Nat, j' ≤ z ∧ j = .int .i64 j' ∧ s = .int .i64 (hi q m y j')) (fun _ j _ => z - (intOf j).toNat)
          case atStart => exact ⟨rfl, 0, by omega, rfl, rfl⟩
          case round =>
            obtain ⟨rfl, j', hj', rfl, rfl⟩ := hrel
            by_cases hjz : j' < z
            · have hs : hi q m y (j' + 1) = hi q m y j' * m % q := rfl
              have hbb := hhb j'
              have HHB := Lib.hid hhb
              have HS := Lib.hid hs
              clear hs hhb
              generalize hi q m y j' = s at *
              obtain ⟨hbb1, hbb2⟩ := hbb
              go_wp2_with (go_at_call 78; refine (mul_any _ _ _ _ (by omega) ⟨hbb1, by omega⟩ ⟨by omega, by omega⟩).mono ?_; rintro e w' ⟨rfl, rfl⟩)
              go_roundw
              case rel => exact ⟨trivial, j' + 1, by omega, by go_num, by rw [HS.out]⟩
              case measure => simp [intOf]; omega
            · obtain rfl : j' = z := by omega
              have hbb := hhb j'
              clear hhb
              have hrl : (bwRow q k j' m y).length = j' + k + j' + 1 := by rw [bwRow_length]; omega
              have hrw : pwl q m (j' + k) ++ (negs q m y j' ++ [hi q m y j']) = bwRow q k j' m y := by rw [← List.append_assoc]; rfl
              have HRL := Lib.hid hrl
              have HRW := Lib.hid hrw
              clear hrl hrw
              generalize hi q m y j' = s at *
              obtain ⟨hbb1, hbb2⟩ := hbb
              go_wp2_with (at_builtin; refine wpList_int _ rfl _ _ rfl wo.heap.size _ (j' + k + j') _ rfl (hO.alloc _) wr.heap.size s rfl (heap_alloc_new wr _) (by omega) (by simp; omega) (wr.heap.size + 1) (by simp) ?_)
              intro g3 cap3 w3 hO3 hgr3 hat3 hlt3
              have hB3 := (hBx.alloc hszx (.cells #[.int .i64 s] 3)).grown hgr3 (by simp; omega) (fun g hg => (hO.lt g hg).1)
              have hR3 := hR.below hB3
              have hy3 : RowAt w3 u10.ownBlock.toList (.slice (some ⟨g3, 0, none⟩) (j' + k + j' + 1) cap3) (bwRow q k j' m y) := by
                rw [HRW.out] at hO3
                refine rowAt_own (B := wo.heap.size) (by rw [HRL.out]; exact hO3) (by rw [HRL.out]; omega) _ fun b hb => ?_
                exact (hR.lt b (by simpa using hb)).2
              have hB3w := hB.trans (hB3.mono hB.size)
              clear hO3 hgr3 hat3 hO hP hne hBx hB3
              go_wp2_with (at_builtin; refine run_row _ rfl _ _ rfl w.heap.size _ m _ rfl (hR3.alloc _) w3.heap.size _ (bwRow q k j' m y) rfl (heap_alloc_new w3 _) (hy3.fr (S := []) ((Fr.refl _ _).alloc _) (by simp)) (by omega) (by have := hB3w.size; simp; omega) (w3.heap.size + 1) (by simp) ?_)
              intro g4 cap4 w4 hR4 hgr4 hat4 hlt4
              have hB4 := (hB3w.alloc hB3w.size (.cells #[(.slice (some ⟨g3, 0, none⟩) (j' + k + j' + 1) cap3)] 22)).grown hgr4 (by have := hB3w.size; simp; omega) (fun g hg => (hR3.lt g hg).1)
              clear hR3 hy3 hgr4 hat4 hR hB hB3w
              go_wp2
              go_roundw
              case rel => exact ⟨m + 1, by omega, by go_num, by rw [HRS.out]; exact hR4, hB4⟩
              case measure => simp [intOf]; omega
    · obtain rfl : m = n := by omega
      obtain ⟨R, cap, rfl, hRb, hM⟩ := hR.mat (by omega)
      have hgood : Good q (2 * t + k + 1) (bwRows q word k t m) := bwRows_good hq1 word hw k t m
      have c72 : ∀ W, Mat W [R] R cap (bwRows q word k t m) → Calls Try.prog 72 #[.int .i64 q, .slice (some ⟨R, 0, none⟩) m cap, .int .i64 (2 * (t : Int) + (k : Int))] W (RetSolve (bwSt q word k t) (2 * t + k) R W) := fun W hM => by
        have := solve_any q (2 * t + k) R cap (bwRows q word k t m) W ⟨hq1, hq2⟩ hgood (by rw [bwRows_length]; omega) (by omega) hM
        rw [bwRows_length] at this
        have e : ((2 * t + k : Nat) : Int) = 2 * (t : Int) + (k : Int) := by omega
        rw [e] at this
        unfold bwSt
        rw [HN.out]
        exact this
      have hgd : Good q (2 * t + k + 1) (bwSt q word k t).rs := by
        unfold bwSt
        rw [HN.out]
        exact (steps_facts (pwf q) q (by omega) _ _ _ hgood (2 * t + k) (Nat.le_refl _)).2.1
      have hle : elemB q (bwL q word k t) = true := outOf_elem (by omega) hgd _
      have hsz := hB.size
      clear hR hgood
      go_wp2_with fail
      refine (c72 _ hM).mono ?_
      rintro e w1 ⟨v1, rfl, hf1, hy1, hn1⟩
      have hB1 : Below w.heap.size w w1 := hB.trans (hf1.belowOf hsz (by simpa using hRb))
      have hbok : okOf (bwSt q word k t) (2 * t + k) = bwOk q word k t := rfl
      rw [hbok] at hy1 hn1
      rw [hbok]
      clear hM c72 hf1 hbok hgd
      cases hok : bwOk q word k t with
      | false =>
        have hmk : mendOk q word k t = false := by unfold mendOk; rw [hok]; rfl
        have HMK := Lib.hid hmk
        clear hmk hy1 hn1 hle hok
        go_wp2
        go_ret2
        exact ⟨.slice none 0 0, by rw [HMK.out]; rfl, hB1, fun h => by rw [HMK.out] at h; cases h⟩
      | true =>
        have hO := hy1 hok
        have hll : (bwL q word k t).length = 2 * t + k := outOf_length _ _
        have hOl : OwnI w1 wr.heap.size v1 (2 * t + k) (bwL q word k t) := hO
        obtain ⟨u, hu⟩ : ∃ u, u = 2 * t + k := ⟨_, rfl⟩
        rw [← hu] at hOl hll
        obtain ⟨gl, capl, rfl, hgl, hgl'⟩ := hOl.form (by omega)
        have hcap := hOl.capLe
        obtain ⟨hcapa, hcapb⟩ := hcap
        clear hO hy1 hn1
        have hsz1 := hB1.size
        obtain ⟨L, hL⟩ : ∃ L, L = bwL q word k t := ⟨_, rfl⟩
        rw [← hL] at hOl hll hle
        have hdl : (L.drop (t + k)).length = t := by simp [hll]; omega
        have htl : (L.take (t + k)).length = t + k := by simp [hll]; omega
        have hO1 := hOl.take (t + k) (by omega)
        have hi1 := hOl.ints
        have hi2 := hi1.drop (t + k)
        rw [Nat.zero_add] at hi2
        have s1 : (0 : Int) ≤ (t : Int) + (k : Int) := by omega
        have s2 : (t : Int) + (k : Int) ≤ (capl : Int) := by omega
        have s3 : (t : Int) + (k : Int) ≤ (u : Int) := by omega
        have s4 : ((t : Int) + (k : Int)).toNat = t + k := by omega
        have s5 : u - (t + k) = t := by omega
        have s6 : ¬ (t + k = 0) := by omega
        clear hOl
        have HU := Lib.hid hu
        clear hu hmn hm
        have hTK := hO1.ints
        have hle1 := elemB_take hle (t + k)
        have hle2 : elemB q (L.drop (t + k) ++ [1]) = true := elemB_append (elemB_drop hle (t + k)) (by simp [elemB]; omega)
        have hdl1 : (L.drop (t + k) ++ [1]).length = t + 1 := by simp [hdl]
        have c79 : ∀ (a1 a2 : Addr) (c1 c2 : Nat) (W : World), Ints W (some a1) (L.take (t + k)) → Ints W (some a2) (L.drop (t + k) ++ [1]) → Calls Try.prog 79 #[.int .i64 q, .slice (some a1) (t + k) c1, .slice (some a2) (t + 1) c2] W
            (fun e w' => ∃ v, e = .returned (.tuple #[v, .bool (mendOk q word k t)]) ∧ OwnI w' W.heap.size v k (mendP q word k t) ∧ Below W.heap.size W w') := fun a1 a2 c1 c2 W g1 g2 => by
          refine (divided_any q a1 a2 c1 c2 (t + k) (t + 1) k (L.take (t + k)) (L.drop (t + k) ++ [1]) W ⟨hq1, hq2⟩ hle1 hle2 g1 g2 htl hdl1 (by omega) (by omega) (by omega) (by omega)).mono ?_
          rintro e w' ⟨v, rfl, h1, h2⟩
          refine ⟨v, ?_, ?_, h2⟩
          · unfold mendOk bwE bwQ
            rw [hok, ← hL, Bool.true_and]
          · unfold mendP bwE bwQ
            rw [← hL]
            simpa using h1
        clear hO1 hok hL
        by_cases h0 : capl = t + k
        · have hAD : Ints w1 (some ⟨gl, 0, none⟩) (L.drop (t + k)) := by rw [List.drop_eq_nil_of_le (by omega)]; exact .inl rfl
          clear hi1 hi2
          go_wp2_with fail
          go_region_held3 (fun _ => True) (trivial) ((first
            | (go_at_call 80; refine (clone_any _ t _ (L.drop (t + k)) _ (Ints.below hAD (by repeat' (first | assumption | exact Below.refl _ _ | refine Below.drew ?_ | refine Below.drewN ?_ _ | refine Below.alloc ?_ ?_ _ | (simp <;> omega)))) hdl (by omega)).mono ?_; rintro e w3 ⟨v3, rfl, ho3, hb3⟩; have hK3 : Below w1.heap.size w1 w3 := Below.trans (by repeat' (first | assumption | exact Below.refl _ _ | refine Below.drew ?_ | refine Below.drewN ?_ _ | refine Below.alloc ?_ ?_ _ | (simp <;> omega))) (hb3.mono (by simp)); have hk3s := hK3.size; rw [hdl] at ho3; have ho4 := ho3.mono (B := w1.heap.size) (by simp))
            | (refine step_int _ (by rfl) _ _ (by rfl) w1.heap.size _ t (L.drop (t + k)) (by rfl) (ho4.alloc _) w3.heap.size 1 (by rfl) (heap_alloc_new w3 _) (by omega) (by have := hK3.size; simp; omega) (w3.heap.size + 1) (by simp) ?_; intro g5 cap5 w5 ho5 hgr5 hat5 hlt5; have hK5 : Below w1.heap.size w1 w5 := Below.grown (by repeat' (first | assumption | exact Below.refl _ _ | refine Below.drew ?_ | refine Below.drewN ?_ _ | refine Below.alloc ?_ ?_ _ | (simp <;> omega))) hgr5 (by have := hK3.size; simp; omega) (fun g hg => (ho4.lt g hg).1))
            | (refine step_int _ (by rfl) _ _ (by rfl) w1.heap.size _ t (L.drop (t + k)) (by rfl) ho4 w1.heap.size 1 (by rfl) ((hb3.block w1.heap.size (by simp)).trans (heap_alloc_new w1 _)) (by omega) (by have := hK3.size; omega) w3.heap.size (by rfl) ?_; intro g5 cap5 w5 ho5 hgr5 hat5 hlt5; have hK5 : Below w1.heap.size w1 w5 := Below.grown (by repeat' (first | assumption | exact Below.refl _ _ | refine Below.drew ?_ | refine Below.drewN ?_ _ | refine Below.alloc ?_ ?_ _ | (simp <;> omega))) hgr5 (by have := hK3.size; omega) (fun g hg => (ho4.lt g hg).1))
            | (go_at_call 79; refine (c79 _ _ _ _ _ (Ints.below hTK (by repeat' (first | assumption | exact Below.refl _ _ | refine Below.drew ?_ | refine Below.drewN ?_ _ | refine Below.alloc ?_ ?_ _ | (simp <;> omega)))) ho5.ints).mono ?_; rintro e w6 ⟨v6, rfl, ho6, hb6⟩; have hK6 : Below w1.heap.size w1 w6 := Below.trans (by repeat' (first | assumption | exact Below.refl _ _ | refine Below.drew ?_ | refine Below.drewN ?_ _ | refine Below.alloc ?_ ?_ _ | (simp <;> omega))) (hb6.mono (by simpa using hK5.size)); have ho7 := ho6.mono (B := w.heap.size) (by have := hK5.size; simp; omega))))
          all_goals
            have hB6 : Below w.heap.size w w6 := hB1.trans (hK6.mono hsz1)
            clear hK6 hK5 hK3 hgr5 hat5 ho5 ho6 ho3 ho4 hb3 hb6 hAD hTK
            go_wp2
            go_ret2
            exact ⟨v6, rfl, hB6, fun _ => ho7⟩
        · have hAD := hi2
          clear hi1 hi2
          go_wp2_with fail
          go_region_held3 (fun _ => True) (trivial) ((first
            | (go_at_call 80; refine (clone_any _ t _ (L.drop (t + k)) _ (Ints.below hAD (by repeat' (first | assumption | exact Below.refl _ _ | refine Below.drew ?_ | refine Below.drewN ?_ _ | refine Below.alloc ?_ ?_ _ | (simp <;> omega)))) hdl (by omega)).mono ?_; rintro e w3 ⟨v3, rfl, ho3, hb3⟩; have hK3 : Below w1.heap.size w1 w3 := Below.trans (by repeat' (first | assumption | exact Below.refl _ _ | refine Below.drew ?_ | refine Below.drewN ?_ _ | refine Below.alloc ?_ ?_ _ | (simp <;> omega))) (hb3.mono (by simp)); have hk3s := hK3.size; rw [hdl] at ho3; have ho4 := ho3.mono (B := w1.heap.size) (by simp))
            | (refine step_int _ (by rfl) _ _ (by rfl) w1.heap.size _ t (L.drop (t + k)) (by rfl) (ho4.alloc _) w3.heap.size 1 (by rfl) (heap_alloc_new w3 _) (by omega) (by have := hK3.size; simp; omega) (w3.heap.size + 1) (by simp) ?_; intro g5 cap5 w5 ho5 hgr5 hat5 hlt5; have hK5 : Below w1.heap.size w1 w5 := Below.grown (by repeat' (first | assumption | exact Below.refl _ _ | refine Below.drew ?_ | refine Below.drewN ?_ _ | refine Below.alloc ?_ ?_ _ | (simp <;> omega))) hgr5 (by have := hK3.size; simp; omega) (fun g hg => (ho4.lt g hg).1))
            | (refine step_int _ (by rfl) _ _ (by rfl) w1.heap.size _ t (L.drop (t + k)) (by rfl) ho4 w1.heap.size 1 (by rfl) ((hb3.block w1.heap.size (by simp)).trans (heap_alloc_new w1 _)) (by omega) (by have := hK3.size; omega) w3.heap.size (by rfl) ?_; intro g5 cap5 w5 ho5 hgr5 hat5 hlt5; have hK5 : Below w1.heap.size w1 w5 := Below.grown (by repeat' (first | assumption | exact Below.refl _ _ | refine Below.drew ?_ | refine Below.drewN ?_ _ | refine Below.alloc ?_ ?_ _ | (simp <;> omega))) hgr5 (by have := hK3.size; omega) (fun g hg => (ho4.lt g hg).1))
            | (go_at_call 79; refine (c79 _ _ _ _ _ (Ints.below hTK (by repeat' (first | assumption | exact Below.refl _ _ | refine Below.drew ?_ | refine Below.drewN ?_ _ | refine Below.alloc ?_ ?_ _ | (simp <;> omega)))) ho5.ints).mono ?_; rintro e w6 ⟨v6, rfl, ho6, hb6⟩; have hK6 : Below w1.heap.size w1 w6 := Below.trans (by repeat' (first | assumption | exact Below.refl _ _ | refine Below.drew ?_ | refine Below.drewN ?_ _ | refine Below.alloc ?_ ?_ _ | (simp <;> omega))) (hb6.mono (by simpa using hK5.size)); have ho7 := ho6.mono (B := w.heap.size) (by have := hK5.size; simp; omega))))
          all_goals
            have hB6 : Below w.heap.size w w6 := hB1.trans (hK6.mono hsz1)
            clear hK6 hK5 hK3 hgr5 hat5 ho5 ho6 ho3 ho4 hb3 hb6 hAD hTK
            go_wp2
            go_ret2
            exact ⟨v6, rfl, hB6, fun _ => ho7⟩
end Go.Proofs.Ytneliejncfncdaa
