/- Texts Ta Tb Tc in one. -/
import Derived.Test.YtneliejncfncdaaPkN
import Derived.Test.YtneliejncfncdaaPkB
import Derived.Test.YtneliejncfncdaaPkHa
import Derived.Test.YtneliejncfncdaaPkIa
import Derived.Test.YtneliejncfncdaaPkJ
import Derived.Test.YtneliejncfncdaaPkQ
namespace Go.Proofs.Ytneliejncfncdaa
open Go.RowKit

theorem enter70 : ∀ args w, (callFunc 70 args).run Try.prog w = .ok (.enter 70 args) w := fun _ _ => by kernel_rfl

/-- Which of the first q numbers lie in a list. -/
def marks (q : Nat) (xs : List Int) : List Bool := (List.range q).map fun i : Nat => decide ((i : Int) ∈ xs)
theorem marks_length (q : Nat) (xs : List Int) : (marks q xs).length = q := by simp [marks]
theorem marks_get (q : Nat) (xs : List Int) {i : Nat} (h : i < (marks q xs).length) : (marks q xs)[i] = decide ((i : Int) ∈ xs) := by simp [marks]
theorem marks_nil (q : Nat) : marks q [] = List.replicate q false := by simp [marks, List.map_const']
theorem marks_add (q : Nat) (xs : List Int) (k : Nat) : (marks q xs).set k true = marks q (xs ++ [(k : Int)]) := by
  apply List.ext_getElem
  · simp [marks]
  · intro i h1 h2
    simp only [List.getElem_set, marks_get]
    by_cases h : k = i
    · subst h; simp
    · rw [if_neg h]
      simp only [List.mem_append, List.mem_singleton, Int.ofNat_inj, show ¬ i = k from fun e => h e.symm, or_false]

/-- The equations of interpolation. -/
def thRow (q x y : Int) (n : Nat) : List Int := pwl q x n ++ [y]
def thRows (q : Int) (xs ys : List Int) (n m : Nat) : List (List Int) := (List.range m).map fun i => thRow q (xs.getD i 0) (ys.getD i 0) n
theorem thRows_succ (q : Int) (xs ys : List Int) (n m : Nat) : thRows q xs ys n (m + 1) = thRows q xs ys n m ++ [thRow q (xs.getD m 0) (ys.getD m 0) n] := by simp [thRows, List.range_succ]
theorem thRows_length (q : Int) (xs ys : List Int) (n m : Nat) : (thRows q xs ys n m).length = m := by simp [thRows]
theorem thRow_length (q x y : Int) (n : Nat) : (thRow q x y n).length = n + 1 := by simp [thRow, pwl_length]
theorem elem_getD {q : Int} (hq : 1 ≤ q) {l : List Int} (h : elemB q l = true) (k : Nat) : 0 ≤ l.getD k 0 ∧ l.getD k 0 < q := by
  simp only [List.getD]
  cases e : l[k]? with
  | none => simp; omega
  | some x => exact (elemB_iff' q l).1 h k x e
theorem thRow_elem {q x y : Int} (hq : 2 ≤ q) (hy : 0 ≤ y ∧ y < q) (n : Nat) : ∀ (j : Nat) (z : Int), (thRow q x y n)[j]? = some z → 0 ≤ z ∧ z < q := by
  intro j z hz
  have hm := List.mem_of_getElem? hz
  simp only [thRow, pwl, List.mem_append, List.mem_map, List.mem_singleton] at hm
  rcases hm with ⟨i, _, rfl⟩ | rfl
  · exact pw_bd hq i
  · exact hy
theorem thRows_good {q : Int} (hq : 2 ≤ q) (xs ys : List Int) (hy : elemB q ys = true) (n m : Nat) : Good q (n + 1) (thRows q xs ys n m) := by
  intro i r hi
  simp only [thRows, List.getElem?_map] at hi
  obtain ⟨k, hk, rfl⟩ := Option.map_eq_some_iff.1 hi
  exact ⟨thRow_length _ _ _ _, thRow_elem hq (elem_getD (by omega) hy k) n⟩

/-- Rows whose blocks lie outside of X. -/
def RowsX (w : World) (X : List Nat) (B : Nat) (v : Value) (n : Nat) (rs : List (List Int)) : Prop :=
  rs.length = n ∧ ∃ vs : List Value, w.ownsRow B 22 1 v n vs ∧ ∀ (i : Nat) (r : List Int), rs[i]? = some r → ∃ x, vs[i]? = some x ∧ RowAt w (X ++ v.ownBlock.toList) x r
section
variable {w : World} {X : List Nat} {B n : Nat} {v : Value} {rs : List (List Int)}
theorem RowsX.nil (w : World) (X : List Nat) (B : Nat) : RowsX w X B (.slice none 0 0) 0 [] := ⟨rfl, [], World.ownsRow_nil _ _ _ _, by intro i r h; simp at h⟩
theorem RowAt.less {X Y : List Nat} {v : Value} {r : List Int} (h : RowAt w X v r) (hY : ∀ k ∈ Y, k ∈ X) : RowAt w Y v r := by
  obtain ⟨b, off, c, e1, e2, e3, e4⟩ := h
  exact ⟨b, off, c, e1, fun h => e2 (hY b h), e3, e4⟩
theorem RowsX.rows (h : RowsX w X B v n rs) : RowsI w B v n rs := by
  obtain ⟨h1, vs, h2, h3⟩ := h
  refine ⟨h1, vs, h2, fun i r hi => ?_⟩
  obtain ⟨x, hx, hr⟩ := h3 i r hi
  exact ⟨x, hx, hr.less (by simp; intro k hk; exact .inr hk)⟩
theorem RowsX.lt (h : RowsX w X B v n rs) : ∀ k, v.ownBlock = some k → B ≤ k ∧ k < w.heap.size := h.rows.lt
theorem RowsX.keep {w' : World} {S : List Nat} (h : RowsX w X B v n rs) (hf : Fr S w w') (hS : ∀ k ∈ S, k < w.heap.size → k ∈ X ∧ k < B) : RowsX w' X B v n rs := by
  obtain ⟨h1, vs, ho, h3⟩ := h
  refine ⟨h1, vs, ?_, fun i r hi => ?_⟩
  · have hl := World.ownsRow.lt ho
    refine ⟨ho.1, ?_⟩
    rcases ho.2 with h' | ⟨g, cap, cur, e1, e2, e3, e4⟩
    · exact .inl h'
    · have := hl g (by rw [e1]; rfl)
      exact .inr ⟨g, cap, cur, e1, e2, (hf.block g this.2 (fun hm => by have := (hS g hm this.2).2; omega)).trans e3, e4⟩
  · obtain ⟨x, hx, hr⟩ := h3 i r hi
    exact ⟨x, hx, hr.fr hf (fun k hk hl => by simp [(hS k hk hl).1])⟩
theorem RowsX.below {w' : World} (h : RowsX w X B v n rs) (hb : Below w.heap.size w w') : RowsX w' X B v n rs := h.keep (fr_of_below hb []) (by simp)
theorem RowsX.alloc (h : RowsX w X B v n rs) (o : Obj) : RowsX (w.alloc o) X B v n rs := h.below ((Below.refl _ _).alloc (Nat.le_refl _) o)
end

/-- append of one row. -/
theorem run_rowX {ops : Array Oper} {rest : List Oper} {o : Oper} {a : Act} {Q : Exit → Act → World → Prop} (w : World) (hgd : o.guard = none) (s x : Operand)
    (ho : o.op = .call { callee := .builtin .append, args := #[s, x], argTypes := #[96, 96] })
    (X : List Nat) (base : Nat) (v : Value) (n : Nat) (rs : List (List Int)) (hs : a.eval s = v) (hown : RowsX w X base v n rs)
    (H0 : Nat) (y : Value) (r : List Int) (hx : a.eval x = .slice (some ⟨H0, 0, none⟩) 1 1) (hblk : w.heap[H0]? = some (.cells #[y] 22 (0, 0)))
    (hy : RowAt w (X ++ v.ownBlock.toList) y r)
    (hn : n ≤ 1000000) (hbase : base ≤ w.heap.size) (H : Nat) (hH : w.heap.size = H)
    (h : ∀ g cap w', RowsX w' X base (.slice (some ⟨g, 0, none⟩) (n + 1) cap) (n + 1) (rs ++ [r]) → w.grownBy w' v.ownBlock → (v.ownBlock = some g ∨ g = H) → g < w'.heap.size → wpList Try.prog ops Q rest (a.put o.dst (.slice (some ⟨g, 0, none⟩) (n + 1) cap)) w') : wpList Try.prog ops Q (o :: rest) a w := by
  obtain ⟨i0, hi0, hz0, hz1, hz2⟩ := info_parts Try.info22
  obtain ⟨h1, vs, ho1, h3⟩ := hown
  have hy1 : y.oneCell' = true := by obtain ⟨b, off, c, rfl, _⟩ := hy; rfl
  have hlt := World.ownsRow.lt ho1
  refine wpList_append_lies _ hgd s x 96 ho base 22 i0 _ 1 24 Try.underlying96 hi0 hz0 hz1 hz2 rfl (by omega) v n _ hs ho1 ⟨H0, 0, none⟩ 1 1 [y] hx rfl (World.news_of_block (cs := #[y]) hblk) (by simpa using hy1)
    (by omega) (by unfold maxLen; omega) (by omega) hbase H hH ?_
  intro g cap w1 hown1 hgr hat hg
  refine h g cap w1 ⟨by simp [h1], _, hown1, ?_⟩ hgr hat hg
  have hvl : vs.length = n := by have := ho1.1; omega
  have hfr : Fr v.ownBlock.toList w w1 := fr_of_grown hgr (by intro k hk _; simp [hk])
  have key : ∀ (z : Value) (s : List Int), RowAt w (X ++ v.ownBlock.toList) z s → RowAt w1 (X ++ [g]) z s := by
    rintro z s ⟨b, off, c, e1, e2, e3, e4⟩
    rw [List.mem_append] at e2
    refine ⟨b, off, c, e1, ?_, Nat.lt_of_lt_of_le e3 hfr.size, At.fr e4 hfr (fun a ha => by cases ha; exact fun h => e2 (.inr h))⟩
    rw [List.mem_append]
    rintro (hb | hb)
    · exact e2 (.inl hb)
    · rcases hat with hat | hat
      · rw [hat] at e2; exact e2 (.inr (by simpa using hb))
      · simp at hb; omega
  intro i s hi
  rw [List.getElem?_append] at hi
  split at hi
  · rename_i hlt2
    obtain ⟨z, hz, hr⟩ := h3 i s hi
    exact ⟨z, by rw [List.getElem?_append_left (by omega)]; exact hz, key z s hr⟩
  · rename_i hlt2
    have : i = n := by
      by_cases e : i = n
      · exact e
      · rw [List.getElem?_eq_none (by simp; omega)] at hi; cases hi
    subst this
    rw [show i - rs.length = 0 by omega] at hi
    cases hi
    exact ⟨y, by rw [List.getElem?_append_right (by omega), hvl]; simp, key y _ hy⟩

section
variable (q : Int) (A C : Option Addr) (c d : Nat) (xs ys : List Int) (w : World) (Bq Bx By Bp : Nat)

theorem th1_no (hq : One w Bq (.int .i64 q) 3) (h : primeB q = false) :
    Calls Try.prog 70 #[.pointer (some ⟨Bq, 0, none⟩), .pointer (some ⟨Bx, 0, none⟩), .pointer (some ⟨By, 0, none⟩), .pointer (some ⟨Bp, 0, none⟩)] w fun e w' => e = .panicked (refusal 1) ∧ Fr [] w w' ∧ True := by
  have cq := hq.cell
  go_enter Try.func70, Try.ntmps70
  go_wp2_with (go_at_call 58; refine (over_no _ _ h).mono ?_; rintro e w' ⟨rfl, rfl⟩)
  exact ⟨rfl, rfl, Fr.refl _ _, trivial⟩

theorem th1_outx (hq : One w Bq (.int .i64 q) 3) (hp : One w Bx (.slice A xs.length c) 22) (hA : Ints w A xs) (hl : xs.length ≤ 1000000) (h : primeB q = true) (h2 : elemB q xs = false) :
    Calls Try.prog 70 #[.pointer (some ⟨Bq, 0, none⟩), .pointer (some ⟨Bx, 0, none⟩), .pointer (some ⟨By, 0, none⟩), .pointer (some ⟨Bp, 0, none⟩)] w fun e w' => e = .panicked (refusal 1) ∧ Fr [] w w' ∧ True := by
  have cq := hq.cell
  have cp := hp.cell
  go_enter Try.func70, Try.ntmps70
  go_wp2_with (first | (go_at_call 58; refine (over_yes _ _ h).mono ?_; rintro e w' ⟨rfl, rfl⟩) | (go_at_call 59; refine (elements_no q _ _ xs _ h2 hA hl).mono ?_; rintro e w' ⟨rfl, rfl⟩))
  exact ⟨rfl, rfl, Fr.refl _ _, trivial⟩

theorem th1_outy (hq : One w Bq (.int .i64 q) 3) (hp : One w Bx (.slice A xs.length c) 22) (hr : One w By (.slice C ys.length d) 22) (hA : Ints w A xs) (hC : Ints w C ys) (hl : xs.length ≤ 1000000) (hl2 : ys.length ≤ 1000000) (h : primeB q = true) (h2 : elemB q xs = true) (h3 : elemB q ys = false) :
    Calls Try.prog 70 #[.pointer (some ⟨Bq, 0, none⟩), .pointer (some ⟨Bx, 0, none⟩), .pointer (some ⟨By, 0, none⟩), .pointer (some ⟨Bp, 0, none⟩)] w fun e w' => e = .panicked (refusal 1) ∧ Fr [] w w' ∧ True := by
  have cq := hq.cell
  have cp := hp.cell
  have cr := hr.cell
  go_enter Try.func70, Try.ntmps70
  go_wp2_with (go_at_call 58; refine (over_yes _ _ h).mono ?_; rintro e w' ⟨rfl, rfl⟩)
  refine (elements_yes q _ _ xs _ h2 hA hl).mono ?_
  rintro e w' ⟨rfl, rfl⟩
  go_wp2_with fail
  refine (elements_no q _ _ ys _ h3 hC hl2).mono ?_
  rintro e w' ⟨rfl, rfl⟩
  go_wp2_with fail
  exact ⟨rfl, rfl, Fr.refl _ _, trivial⟩

theorem th1_must (hq : One w Bq (.int .i64 q) 3) (hp : One w Bx (.slice A xs.length c) 22) (hr : One w By (.slice C ys.length d) 22) (hA : Ints w A xs) (hC : Ints w C ys) (hl : xs.length ≤ 1000000) (hl2 : ys.length ≤ 1000000) (h : primeB q = true) (h2 : elemB q xs = true) (h3 : elemB q ys = true)
    (h4 : (decide (xs.length = ys.length) && decide (1 ≤ xs.length) && decide ((xs.length : Int) ≤ q)) = false) :
    Calls Try.prog 70 #[.pointer (some ⟨Bq, 0, none⟩), .pointer (some ⟨Bx, 0, none⟩), .pointer (some ⟨By, 0, none⟩), .pointer (some ⟨Bp, 0, none⟩)] w fun e w' => e = .panicked (refusal 1) ∧ Fr [] w w' ∧ True := by
  have cq := hq.cell
  have cp := hp.cell
  have cr := hr.cell
  have H4 := Lib.hid h4
  clear h4
  cases e1 : decide (xs.length = ys.length) with
  | false =>
    have e1' : decide ((xs.length : Int) = (ys.length : Int)) = false := decide_eq_false (by have := of_decide_eq_false e1; omega)
    have e1b : ((xs.length : Int) == (ys.length : Int)) = false := by have := of_decide_eq_false e1; simp; omega
    clear H4
    go_enter Try.func70, Try.ntmps70
    go_wp2_with (go_at_call 58; refine (over_yes _ _ h).mono ?_; rintro e w' ⟨rfl, rfl⟩)
    refine (elements_yes q _ _ xs _ h2 hA hl).mono ?_
    rintro e w' ⟨rfl, rfl⟩
    go_wp2_with fail
    refine (elements_yes q _ _ ys _ h3 hC hl2).mono ?_
    rintro e w' ⟨rfl, rfl⟩
    go_wp2_with (go_at_call 60; refine (must_no _).mono ?_; rintro e w' ⟨rfl, rfl⟩)
    exact ⟨rfl, rfl, Fr.refl _ _, trivial⟩
  | true =>
    have e1' : decide ((xs.length : Int) = (ys.length : Int)) = true := decide_eq_true (by have := of_decide_eq_true e1; omega)
    have e1b : ((xs.length : Int) == (ys.length : Int)) = true := by have := of_decide_eq_true e1; simp; omega
    cases e2 : decide (1 ≤ xs.length) with
    | false =>
      have e2' : decide ((1 : Int) ≤ (xs.length : Int)) = false := decide_eq_false (by have := of_decide_eq_false e2; omega)
      clear H4
      go_enter Try.func70, Try.ntmps70
      go_wp2_with (go_at_call 58; refine (over_yes _ _ h).mono ?_; rintro e w' ⟨rfl, rfl⟩)
      refine (elements_yes q _ _ xs _ h2 hA hl).mono ?_
      rintro e w' ⟨rfl, rfl⟩
      go_wp2_with fail
      refine (elements_yes q _ _ ys _ h3 hC hl2).mono ?_
      rintro e w' ⟨rfl, rfl⟩
      go_wp2_with (go_at_call 60; refine (must_no _).mono ?_; rintro e w' ⟨rfl, rfl⟩)
      exact ⟨rfl, rfl, Fr.refl _ _, trivial⟩
    | true =>
      have e2' : decide ((1 : Int) ≤ (xs.length : Int)) = true := decide_eq_true (by have := of_decide_eq_true e2; omega)
      have e3 : decide ((xs.length : Int) ≤ q) = false := by
        have := H4.out
        rw [e1, e2] at this
        simpa using this
      clear H4
      go_enter Try.func70, Try.ntmps70
      go_wp2_with (go_at_call 58; refine (over_yes _ _ h).mono ?_; rintro e w' ⟨rfl, rfl⟩)
      refine (elements_yes q _ _ xs _ h2 hA hl).mono ?_
      rintro e w' ⟨rfl, rfl⟩
      go_wp2_with fail
      refine (elements_yes q _ _ ys _ h3 hC hl2).mono ?_
      rintro e w' ⟨rfl, rfl⟩
      go_wp2_with (go_at_call 60; refine (must_no _).mono ?_; rintro e w' ⟨rfl, rfl⟩)
      exact ⟨rfl, rfl, Fr.refl _ _, trivial⟩
end
end Go.Proofs.Ytneliejncfncdaa

namespace Go.Proofs.Ytneliejncfncdaa
open Go.RowKit

/-- What interpolation gives. -/
def thSt (q : Int) (xs ys : List Int) (n : Nat) : St := steps (pwf q) q (thRows q xs ys n n) n n
def thP (q : Int) (xs ys : List Int) (n : Nat) : List Int := if okOf (thSt q xs ys n) n then outOf (thSt q xs ys n) n else []

theorem take_nodup {xs : List Int} {m : Nat} (hm : m < xs.length) (h : (xs.take m).Nodup) (hx : xs[m] ∉ xs.take m) : (xs.take (m + 1)).Nodup := by
  rw [List.take_succ_eq_append_getElem hm, List.nodup_append]
  exact ⟨h, by simp, fun a ha b hb => by simp at hb; subst hb; exact fun e => hx (e ▸ ha)⟩
theorem not_nodup {xs : List Int} {m : Nat} (hm : m < xs.length) (hx : xs[m] ∈ xs.take m) : ¬ xs.Nodup := by
  intro h
  have h2 : (xs.take (m + 1)).Nodup := h.sublist (List.take_sublist _ _)
  rw [List.take_succ_eq_append_getElem hm, List.nodup_append] at h2
  exact h2.2.2 _ hx _ (by simp) rfl

section
variable (q : Int) (A C : Option Addr) (c d n : Nat) (xs ys : List Int) (w : World) (Bq Bx By Bp : Nat)

def ThOk (e : Ending) (w w' : World) : Prop :=
  e = .returned (.tuple #[]) ∧ Fr [Bp] w w' ∧ ∃ v, One w' Bp v 22 ∧ OwnI w' w.heap.size v (thP q xs ys n).length (thP q xs ys n) ∧ (thP q xs ys n = [] → v = .slice none 0 0)
def ThNo (e : Ending) (w w' : World) : Prop := e = .panicked (refusal 1) ∧ Fr [] w w' ∧ True
def ThRet (e : Ending) (w' : World) : Prop := if decide xs.Nodup then ThOk q n xs ys Bp e w w' else ThNo e w w'

set_option maxRecDepth 100000 in
set_option maxHeartbeats 3200000 in
theorem th1_run (hq : One w Bq (.int .i64 q) 3) (hp : One w Bx (.slice A n c) 22) (hr : One w By (.slice C n d) 22) (hm : ∃ x, One w Bp x 22) (hA : Ints w A xs) (hC : Ints w C ys) (h : primeB q = true) (h2 : elemB q xs = true) (h3 : elemB q ys = true)
    (hx : xs.length = n) (hy : ys.length = n) (hn1 : 1 ≤ n) (hlq : (n : Int) ≤ q) :
    Calls Try.prog 70 #[.pointer (some ⟨Bq, 0, none⟩), .pointer (some ⟨Bx, 0, none⟩), .pointer (some ⟨By, 0, none⟩), .pointer (some ⟨Bp, 0, none⟩)] w (ThRet q n xs ys w Bp) := by
  have cq := hq.cell
  have cp := hp.cell
  have cr := hr.cell
  have lq := hq.lt
  have lp := hp.lt
  have lr := hr.lt
  obtain ⟨xm, hm⟩ := hm
  have lm := hm.lt
  have hpr := prime_bd h
  obtain ⟨hp1, hp2⟩ := hpr
  obtain ⟨qn, rfl⟩ : ∃ qn : Nat, q = qn := ⟨q.toNat, by omega⟩
  have e1 : decide ((n : Int) = (n : Int)) = true := decide_eq_true rfl
  have e1b : ((n : Int) == (n : Int)) = true := by simp
  have e2 : decide ((1 : Int) ≤ (n : Int)) = true := decide_eq_true (by omega)
  have e3 : decide ((n : Int) ≤ (qn : Int)) = true := decide_eq_true hlq
  have c58 : ∀ W, Calls Try.prog 58 #[.int .i64 qn] W fun e w' => e = .returned (.int .i64 qn) ∧ W = w' := fun W => (over_yes _ _ h).mono fun e w' h => ⟨h.1, h.2.symm⟩
  have c59 : Calls Try.prog 59 #[.int .i64 qn, .slice A n c] w fun e w' => e = .returned (.tuple #[]) ∧ w = w' := by
    have := elements_yes qn A c xs w h2 hA (by omega)
    rw [hx] at this
    exact this.mono fun e w' h => ⟨h.1, h.2.symm⟩
  have c59y : Calls Try.prog 59 #[.int .i64 qn, .slice C n d] w fun e w' => e = .returned (.tuple #[]) ∧ w = w' := by
    have := elements_yes qn C d ys w h3 hC (by omega)
    rw [hy] at this
    exact this.mono fun e w' h => ⟨h.1, h.2.symm⟩
  have c60 : ∀ W, Calls Try.prog 60 #[.bool true] W fun e w' => e = .returned (.tuple #[]) ∧ W = w' := fun W => (must_yes _).mono fun e w' h => ⟨h.1, h.2.symm⟩
  have c71 : ∀ x y W, 0 ≤ x → x < (qn : Int) → Calls Try.prog 71 #[.int .i64 qn, .int .i64 x, .int .i64 n, .int .i64 y] W (RetOwn (thRow qn x y n) W) := fun x y W hx1 hx2 => powers_any qn x y n W ⟨hp1, hp2⟩ ⟨hx1, by omega⟩ (by omega)
  have hRn : ∀ e w', ¬ xs.Nodup → ThNo e w w' → ThRet qn n xs ys w Bp e w' := fun e w' h1 h => by unfold ThRet; rw [decide_eq_false h1]; exact h
  have hRy : ∀ e w', xs.Nodup → ThOk qn n xs ys Bp e w w' → ThRet qn n xs ys w Bp e w' := fun e w' h1 h => by unfold ThRet; rw [decide_eq_true h1]; exact h
  have HRN := Lib.hid hRn
  have HRY := Lib.hid hRy
  have HX := Lib.hid hx
  have HY := Lib.hid hy
  clear hRn hRy hx hy
  obtain ⟨ws, hws⟩ : ∃ ws, ws = w := ⟨_, rfl⟩
  subst hws
  obtain ⟨g, hg⟩ : ∃ g, ws.heap.size = g := ⟨_, rfl⟩
  go_enter Try.func70, Try.ntmps70
  go_wp2_with (go_at_call 58; refine (c58 _).mono ?_; rintro e w' ⟨rfl, rfl⟩)
  refine c59.mono ?_
  rintro e w' ⟨rfl, rfl⟩
  go_wp2_with fail
  refine c59y.mono ?_
  rintro e w' ⟨rfl, rfl⟩
  go_wp2_with (first | (go_at_call 60; refine (c60 _).mono ?_; rintro e w' ⟨rfl, rfl⟩) | (at_make; refine wpList_makeBools _ rfl _ _ rfl g _ _ qn rfl rfl rfl rfl (by omega) (by omega) ?_))
  intro w2 hown hgr
  have hb2 : Below g ws w2 := (Below.refl _ _).grown hgr (by omega) (by intro k hk; cases hk)
  rw [← marks_nil qn] at hown
  have hgl := (hown.lt g rfl).2
  clear hgr c58 c59 c59y e1 e1b e2 e3 cq
  have cp2 := (hp.below hb2 (by omega)).cell
  go_wp2
  go_loopw [6, 37] (fun s i wr => ∃ m : Nat, m ≤ n ∧ i = .int .i64 m ∧ RowsX wr [g] (g + 1) s m (thRows qn xs ys n m) ∧ OwnB wr g (.slice (some ⟨g, 0, none⟩) qn qn) qn (marks qn (xs.take m)) ∧ Below g ws wr ∧ (xs.take m).Nodup) (fun _ i _ => n - (intOf i).toNat)
  case atStart => exact ⟨0, by omega, rfl, RowsX.nil _ _ _, by simpa using hown, hb2, by simp⟩
  case round =>
    clear hown hb2 cp2
    obtain ⟨m, hmn, rfl, hR, hO, hB, hN⟩ := hrel
    have hRlt := hR.lt
    have hRbd : ∀ b, u6.ownBlock = some b → b < wr.heap.size := fun b hb => (hRlt b hb).2
    clear hRlt
    have cp1 := (hp.below hB (by omega)).cell
    have cr1 := (hr.below hB (by omega)).cell
    have hBs := hB.size
    have hgl1 := (hO.lt g rfl).2
    by_cases hlt : m < n
    · obtain ⟨b, o, rfl, hbA, hcA⟩ := hA.get (k := m) (by rw [HX.out]; exact hlt)
      obtain ⟨b2, o2, rfl, hbC, hcC⟩ := hC.get (k := m) (by rw [HY.out]; exact hlt)
      have hcA1 := (hB.cell (p := ⟨b, o + m, none⟩) (by simp; omega)).trans hcA
      have hcC1 := (hB.cell (p := ⟨b2, o2 + m, none⟩) (by simp; omega)).trans hcC
      have hxe := elem_get h2 (k := m) (by rw [HX.out]; exact hlt)
      have hye := elem_get h3 (k := m) (by rw [HY.out]; exact hlt)
      have hrow : thRows qn xs ys n (m + 1) = thRows qn xs ys n m ++ [thRow qn (xs[m]'(by rw [HX.out]; exact hlt)) (ys[m]'(by rw [HY.out]; exact hlt)) n] := by
        rw [thRows_succ, show xs.getD m 0 = xs[m]'(by rw [HX.out]; exact hlt) by simp [List.getD, show m < xs.length by rw [HX.out]; exact hlt], show ys.getD m 0 = ys[m]'(by rw [HY.out]; exact hlt) by simp [List.getD, show m < ys.length by rw [HY.out]; exact hlt]]
      have htk : xs.take (m + 1) = xs.take m ++ [xs[m]'(by rw [HX.out]; exact hlt)] := List.take_succ_eq_append_getElem _
      have hnn : xs[m]'(by rw [HX.out]; exact hlt) ∈ xs.take m → ¬ xs.Nodup := not_nodup _
      have hny : xs[m]'(by rw [HX.out]; exact hlt) ∉ xs.take m → (xs.take (m + 1)).Nodup := take_nodup _ hN
      have c1 := fun W => c71 (xs[m]'(by rw [HX.out]; exact hlt)) (ys[m]'(by rw [HY.out]; exact hlt)) W hxe.1 hxe.2
      generalize xs[m]'(by rw [HX.out]; exact hlt) = x at *
      generalize ys[m]'(by rw [HY.out]; exact hlt) = y at *
      obtain ⟨hx1, hx2⟩ := hxe
      obtain ⟨xn, rfl⟩ : ∃ xn : Nat, x = xn := ⟨x.toNat, by omega⟩
      have hxq : xn < qn := by omega
      have hcs := hO.get (k := xn) (by rw [marks_length]; exact hxq)
      rw [marks_get] at hcs
      have hfz := hO.frozen xn
      rw [htk] at hny
      by_cases hin : (xn : Int) ∈ xs.take m
      · rw [decide_eq_true hin] at hcs
        have hno := hnn hin
        have HNO := Lib.hid hno
        clear hnn hny hno hin hrow htk c71 c1
        go_wp2_with (go_at_call 60; refine (must_no _).mono ?_; rintro e w' ⟨rfl, rfl⟩)
        exact ⟨rfl, HRN.out _ _ HNO.out ⟨rfl, fr_of_below (hB.mono (Nat.le_of_eq hg)) _, trivial⟩⟩
      · rw [decide_eq_false hin] at hcs
        have hny2 := hny hin
        have hO2 := hO.set xn true
        rw [marks_add, ← htk] at hO2
        rw [← htk] at hny2
        have hB2 := hB.setCell (p := ⟨g, xn, none⟩) (by simp) (.bool true)
        have hR2 := hR.keep (w' := wr.setCell ⟨g, xn, none⟩ (.bool true)) ((Fr.refl [g] wr).set ⟨g, xn, none⟩ (.inl (by simp)) (.bool true)) (by intro k hk _; simp at hk; subst hk; exact ⟨by simp, by omega⟩)
        have HN := Lib.hid hny2
        have HROW := Lib.hid hrow
        have HO2 := Lib.hid hO2
        have HR2 := Lib.hid hR2
        have HB2 := Lib.hid hB2
        clear hnn hny hin hrow htk c71 hny2 hO2 hR2 hB2 hN
        go_wp2_with (go_at_call 60; refine (c60 _).mono ?_; rintro e w' ⟨rfl, rfl⟩)
        have hO2 := HO2.out
        have hR2 := HR2.out
        have hB2 := HB2.out
        clear HO2 HR2 HB2 hO hR hcs hfz hRbd cp1 cr1 hcA1 hcC1
        generalize wr.setCell ⟨g, xn, none⟩ (.bool true) = W2 at *
        have k1 := (hp.below hB2 (by omega)).cell
        have k2 := (hB2.cell (p := ⟨b, o + m, none⟩) (by simp; omega)).trans hcA
        have k3 := (hr.below hB2 (by omega)).cell
        have k4 := (hB2.cell (p := ⟨b2, o2 + m, none⟩) (by simp; omega)).trans hcC
        refine Lex.wp_region_lex (fun w' => w'.cell? ⟨Bx, 0, none⟩ = some (.slice (some ⟨b, o, none⟩) n c) ∧ w'.cell? ⟨b, o + m, none⟩ = some (.int .i64 xn) ∧ w'.cell? ⟨By, 0, none⟩ = some (.slice (some ⟨b2, o2, none⟩) n d) ∧ w'.cell? ⟨b2, o2 + m, none⟩ = some (.int .i64 y)) (fun j => j != 15)
          [(0, true), (1, true), (2, true), (3, true), (4, true), (5, true), (6, true), (7, true), (8, true), (9, true), (10, true), (11, true), (12, false), (13, false), (14, false), (15, false)]
          (by kernel_rfl) (by kernel_rfl) (by kernel_rfl) (by kernel_rfl) ⟨k1, k2, k3, k4⟩ ?_
        iterate 12 (refine Lex.lex_take (v := ?_) rfl rfl (by rfl) (fun _ hS => ?_) ?_; rotate_left 1; (focus (go_split_ands; go_simp; with_reducible rfl)); simp only [List.setIfInBounds_toArray, List.set_cons_zero, List.set_cons_succ])
        refine Lex.lex_do rfl ?_
        go_wp2_with fail
        refine (c1 _).mono ?_
        rintro e w4 ⟨v4, rfl, ho4, hb4⟩
        have hlen := thRow_length qn xn y n
        have hb4' : Below W2.heap.size W2 w4 := ⟨hb4.os, hb4.tape, hb4.output, hb4.size, hb4.block⟩
        have ho4' : OwnI w4 W2.heap.size v4 (thRow qn xn y n).length (thRow qn xn y n) := ho4
        obtain ⟨g4, cc4, rfl, hg4, hg4'⟩ := ho4'.form (by omega)
        rw [hlen] at ho4' ⊢
        have hlen' := Lib.hid hlen
        have hRl := hR2.lt
        have hg2 := (hO2.lt g rfl).2
        have hrow4 : RowAt w4 ([g] ++ u6.ownBlock.toList) (.slice (some ⟨g4, 0, none⟩) (n + 1) cc4) (thRow qn xn y n) := by
          refine rowAt_own (by rw [hlen]; exact ho4') (by omega) _ fun k hk => ?_
          simp only [List.mem_append, List.mem_singleton, Option.mem_toList] at hk
          rcases hk with rfl | hk
          · exact hg2
          · exact (hRl k hk).2
        have hR4 := hR2.below hb4'
        have hO4 := hO2.below hb4'
        have hB4 := hB2.trans (hb4'.mono (by have := hB2.size; omega))
        have hs4 := hB4.size
        clear hlen k1 k2 k3 k4 hb4 hb4' ho4 ho4' hR2 hO2 hRl
        have k1 := (hp.below hB4 (by omega)).cell
        have k2 := (hB4.cell (p := ⟨b, o + m, none⟩) (by simp; omega)).trans hcA
        have k3 := (hr.below hB4 (by omega)).cell
        have k4 := (hB4.cell (p := ⟨b2, o2 + m, none⟩) (by simp; omega)).trans hcC
        clear hB2
        go_wp2_with fail
        refine Lex.lexQ_normal (fun _ => ⟨k1, k2, k3, k4⟩) ?_
        refine Lex.lex_do rfl ?_
        go_wp2_with fail
        have hB5 := hB4.alloc (by omega) (.cells #[.slice (some ⟨g4, 0, none⟩) (n + 1) cc4] 22)
        have k1 := (hp.below hB5 (by omega)).cell
        have k2 := (hB5.cell (p := ⟨b, o + m, none⟩) (by simp; omega)).trans hcA
        have k3 := (hr.below hB5 (by omega)).cell
        have k4 := (hB5.cell (p := ⟨b2, o2 + m, none⟩) (by simp; omega)).trans hcC
        refine Lex.lexQ_normal (fun _ => ⟨k1, k2, k3, k4⟩) ?_
        refine Lex.lex_do rfl ?_
        refine run_rowX _ rfl _ _ rfl [g] (g + 1) _ m _ rfl (hR4.alloc _) w4.heap.size _ (thRow qn xn y n) rfl (heap_alloc_new w4 _) (hrow4.fr (S := []) ((Fr.refl _ _).alloc _) (by simp)) (by omega) (by simp; omega) (w4.heap.size + 1) (by simp) ?_
        intro g6 cap6 w6 hR6 hgr6 hat6 hlt6
        have hR4l := hR4.lt
        have hB6 := hB5.grown hgr6 (by simp; omega) (fun k hk => by have := (hR4l k hk).1; omega)
        have hO6 : OwnB w6 g (.slice (some ⟨g, 0, none⟩) qn qn) qn (marks qn (xs.take (m + 1))) := OwnB.keep (w := w4.alloc (.cells #[.slice (some ⟨g4, 0, none⟩) (n + 1) cc4] 22)) (World.ownsRow.alloc hO4 _) fun k hk => by
          simp only [Value.ownBlock, Option.some.injEq] at hk
          subst hk
          exact hgr6.block g (by simp; omega) (fun h => by have := (hR4l g h.symm).1; omega)
        clear k1 k2 k3 k4
        have k1 := (hp.below hB6 (by omega)).cell
        have k2 := (hB6.cell (p := ⟨b, o + m, none⟩) (by simp; omega)).trans hcA
        have k3 := (hr.below hB6 (by omega)).cell
        have k4 := (hB6.cell (p := ⟨b2, o2 + m, none⟩) (by simp; omega)).trans hcC
        clear hgr6 hat6 hB5 hB4 hR4 hO4 hR4l hrow4
        go_wp2_with fail
        refine Lex.lexQ_normal (fun _ => ⟨k1, k2, k3, k4⟩) ?_
        refine Lex.lex_do rfl ?_
        go_wp2_with fail
        refine Lex.lexQ_normal (fun h => absurd h (by decide)) ?_
        refine Lex.lex_nil ?_
        clear k1 k2 k3 k4
        go_wp2
        go_roundw
        case rel => exact ⟨m + 1, by omega, by go_num, by rw [HROW.out]; exact hR6, hO6, hB6, HN.out⟩
        case measure => simp [intOf]; omega
    · obtain rfl : m = n := by omega
      have hRo := hR.rows
      obtain ⟨R, cap, rfl, hRb, hM⟩ := hRo.mat (by omega)
      have hgood : Good qn (m + 1) (thRows qn xs ys m m) := thRows_good hp1 xs ys h3 m m
      have c72 : ∀ W, Mat W [R] R cap (thRows qn xs ys m m) → Calls Try.prog 72 #[.int .i64 qn, .slice (some ⟨R, 0, none⟩) m cap, .int .i64 m] W (RetSolve (thSt qn xs ys m) m R W) := fun W hM => by
        have := solve_any qn m R cap (thRows qn xs ys m m) W ⟨hp1, hp2⟩ hgood (by rw [thRows_length]; omega) (by omega) hM
        rwa [thRows_length] at this
      have hnd : xs.Nodup := by rwa [List.take_of_length_le (by rw [HX.out]; omega)] at hN
      have HND := Lib.hid hnd
      have cp3 := cp1
      clear hnd hN hR hO hgood c71 hRo hRbd
      go_wp2_with fail
      refine (c72 _ hM).mono ?_
      rintro e w1 ⟨v1, rfl, hf1, hy1, hn1⟩
      have hB1 : Below g ws w1 := hB.trans (hf1.belowOf (by omega) (by simp; omega))
      have hm1 := hm.below hB1 (by omega)
      have cm := hm1.cell
      have fm := hm1.free
      have lm1 := hm1.lt
      have hS : Fr [Bp] ws w1 := fr_of_below (hB1.mono (Nat.le_of_eq hg)) _
      clear hM c72 hf1 cp3
      cases hok : okOf (thSt qn xs ys m) m with
      | false =>
        have hv := hn1 hok
        subst hv
        have hP : thP qn xs ys m = [] := by unfold thP; rw [hok]; rfl
        have hm3 := hm1.set (.slice none 0 0)
        have hS3 := hS.set ⟨Bp, 0, none⟩ (.inl (by simp)) (.slice none 0 0)
        have HP := Lib.hid hP
        clear hP hy1 hn1 hok
        go_wp2
        go_end0
        exact HRY.out _ _ HND.out ⟨rfl, hS3, _, hm3, by rw [HP.out]; exact OwnI.nil _ _, fun _ => rfl⟩
      | true =>
        have ho := hy1 hok
        have hP : thP qn xs ys m = outOf (thSt qn xs ys m) m := by unfold thP; rw [hok]; rfl
        have hPl : (outOf (thSt qn xs ys m) m).length = m := outOf_length _ _
        obtain ⟨g1, cap1, rfl, hg1, hg1'⟩ := ho.form (by omega)
        have hm3 := hm1.set (.slice (some ⟨g1, 0, none⟩) m cap1)
        have hS3 := hS.set ⟨Bp, 0, none⟩ (.inl (by simp)) (.slice (some ⟨g1, 0, none⟩) m cap1)
        have ho3 : OwnI (w1.setCell ⟨Bp, 0, none⟩ (.slice (some ⟨g1, 0, none⟩) m cap1)) ws.heap.size (.slice (some ⟨g1, 0, none⟩) m cap1) m (outOf (thSt qn xs ys m) m) := (ho.mono (B := ws.heap.size) (by omega)).keep fun b hb => by
          simp only [Value.ownBlock, Option.some.injEq] at hb
          subst hb
          exact Below.heap_setCell _ _ _ _ (by simp; omega)
        have HP := Lib.hid hP
        have HPL := Lib.hid hPl
        clear hP hPl hy1 hn1 hok ho
        go_wp2
        go_end0
        exact HRY.out _ _ HND.out ⟨rfl, hS3, _, hm3, by rw [HP.out, HPL.out]; exact ho3, fun hh => by rw [HP.out] at hh; have := HPL.out; rw [hh] at this; simp at this; omega⟩
end
end Go.Proofs.Ytneliejncfncdaa

namespace Go.Proofs.Ytneliejncfncdaa
open Go.RowKit

/-- seal.Through: the polynomial, the error. -/
def throughR (q : Int) (xs ys : List Int) : List Int × Int :=
  if primeB q && elemB q xs && elemB q ys && (decide (xs.length = ys.length) && decide (1 ≤ xs.length) && decide ((xs.length : Int) ≤ q)) && decide xs.Nodup then (thP q xs ys xs.length, 0) else ([], 1)

/-- A result of two: a list, an error. -/
def RetL (xs : List Int) (n : Int) (w : World) (e : Ending) (w' : World) : Prop :=
  ∃ v, e = .returned (.tuple #[v, .int .i64 n]) ∧ SlI w' v xs ∧ (xs = [] → v = .slice none 0 0) ∧ Below w.heap.size w w'

set_option maxRecDepth 100000 in
set_option maxHeartbeats 1600000 in
theorem through_top (q : Int) (A C : Option Addr) (c d : Nat) (p r : List Int) (w : World) (xs : List Int) (n : Int)
    (hg : ∀ w3 : World, One w3 w.heap.size (.int .i64 q) 3 → One w3 (w.heap.size + 1) (.slice A p.length c) 22 → One w3 (w.heap.size + 2) (.slice C r.length d) 22 → One w3 (w.heap.size + 3) (.slice none 0 0) 22 → w3.heap.size = w.heap.size + 4 → Below w.heap.size w w3 →
      Calls Try.prog 56 #[.func (.func 70) #[] #[.pointer (some ⟨w.heap.size, 0, none⟩), .pointer (some ⟨w.heap.size + 1, 0, none⟩), .pointer (some ⟨w.heap.size + 2, 0, none⟩), .pointer (some ⟨w.heap.size + 3, 0, none⟩)]] w3
        fun e w' => e = .returned (.int .i64 n) ∧ Fr [w.heap.size + 3] w3 w' ∧ ∃ v, One w' (w.heap.size + 3) v 22 ∧ OwnI w' (w.heap.size + 4) v xs.length xs ∧ (xs = [] → v = .slice none 0 0)) :
    Calls Try.prog 40 #[.int .i64 q, .slice A p.length c, .slice C r.length d] w (RetL xs n w) := by
  have hmf : ∀ (fn : Fn) (first cap : Array Value) (w : World), (Instr.makeFunc fn first cap).run Try.prog w = .ok (.func fn first cap) w := fun _ _ _ _ => rfl
  have HG := Lib.hid hg
  clear hg
  go_enter Try.func40, Try.ntmps40
  go_wp2_with fail
  refine (HG.out _ ?_ ?_ ?_ ?_ ?_ ?_).mono ?_
  · exact (((One.new w _ 3).alloc _).alloc _).alloc _
  · exact ((One.newAt (w.alloc _) _ 22 _ (by simp)).alloc _).alloc _
  · exact (One.newAt ((w.alloc _).alloc _) _ 22 _ (by simp)).alloc _
  · exact One.newAt (((w.alloc _).alloc _).alloc _) _ 22 _ (by simp)
  · simp
  · exact (((((Fr.refl [] w).alloc _).alloc _).alloc _).alloc _).below
  · rintro e w' ⟨rfl, hf, v, hov, hown, hnil⟩
    have hsli := hown.sli
    obtain ⟨AA, cc, hvs, hs1, hs2, hs3, hs4⟩ := hsli
    subst hvs
    have cv := hov.cell
    have fv := hov.free
    have lv := hov.lt
    have hfb : Below w.heap.size w w' := (((((Fr.refl [] w).alloc _).alloc _).alloc _).alloc _).below.trans (hf.belowOf (by simp; omega) (by simp))
    have hov1 := hov.set (.slice AA xs.length cc)
    have cv2 := hov1.cell
    have hown2 : OwnI (w'.setCell ⟨w.heap.size + 3, 0, none⟩ (.slice AA xs.length cc)) (w.heap.size + 4) (.slice AA xs.length cc) xs.length xs := hown.keep fun b hb => by
      have := (hown.lt b hb).1
      rw [Below.heap_setCell _ _ _ _ (by simp; omega)]
    have hfb2 := hfb.setCell (p := ⟨w.heap.size + 3, 0, none⟩) (by simp) (.slice AA xs.length cc)
    have hsl2 := hown2.sli
    clear hov hov1 hown hown2 hs4 hf HG
    go_wp2
    refine bodyPost_ret (v := .tuple #[.slice AA xs.length cc, .int .i64 n]) (by simp [results, Try.results40, go_sem, cv2]) rfl ⟨_, rfl, hsl2, hnil, hfb2⟩

theorem through_ret (q : Int) (A C : Option Addr) (c d : Nat) (p r : List Int) (w : World) (hA : Ints w A p) (hC : Ints w C r) (hl : p.length ≤ 1000000) (hl2 : r.length ≤ 1000000) :
    Calls Try.prog 40 #[.int .i64 q, .slice A p.length c, .slice C r.length d] w (RetL (throughR q p r).1 (throughR q p r).2 w) := by
  refine through_top q A C c d p r w _ _ fun w3 h1 h2 h3 h4 hs hb => ?_
  have hA3 := hA.below hb
  have hC3 := hC.below hb
  have bad : ∀ (w' : World) (e : Ending) (z : Int), e = .returned (.int .i64 z) ∧ Fr [] w3 w' ∧ (∃ w1 : World, True ∧ Fr [w3.heap.size] w1 w') →
      e = .returned (.int .i64 z) ∧ Fr [w.heap.size + 3] w3 w' ∧ ∃ v, One w' (w.heap.size + 3) v 22 ∧ OwnI w' (w.heap.size + 4) v ([] : List Int).length [] ∧ (([] : List Int) = [] → v = .slice none 0 0) := by
    rintro w' e z ⟨h, hf, _⟩
    exact ⟨h, hf.mono (by simp), _, h4.fr hf (by simp), OwnI.nil _ _, fun _ => rfl⟩
  unfold throughR
  by_cases hp : primeB q = true
  · by_cases he : elemB q p = true
    · by_cases hr : elemB q r = true
      · by_cases hm : (decide (p.length = r.length) && decide (1 ≤ p.length) && decide ((p.length : Int) ≤ q)) = true
        · rw [hp, he, hr, hm]
          simp only [Bool.and_self, Bool.true_and]
          simp only [Bool.and_eq_true, decide_eq_true_eq] at hm
          obtain ⟨⟨m1, m2⟩, m3⟩ := hm
          have hrun := th1_run q A C c d p.length p r _ _ _ _ _ (h1.alloc (.cells #[.int .i64 0] 24)) (h2.alloc _) (by rw [m1]; exact h3.alloc _) ⟨_, h4.alloc _⟩ (hA3.alloc _) (hC3.alloc _) hp he hr rfl m1.symm m2 m3
          unfold ThRet at hrun
          by_cases hnd : p.Nodup
          · rw [decide_eq_true hnd] at hrun ⊢
            simp only [if_true] at hrun ⊢
            unfold ThOk at hrun
            generalize thP q p r p.length = xs at *
            refine (guarded_okF 70 _ w3 [w.heap.size + 3] _ enter70 hrun (by simp; omega)).mono ?_
            rintro e w' ⟨h, hf, w1, ⟨v, g1, g2, g3⟩, hf1⟩
            refine ⟨h, hf, v, g1.fr hf1 (by simp; omega), ?_, g3⟩
            refine (g2.fr hf1 fun b hb => ?_).mono (by simp; omega)
            have := (g2.lt b hb).1
            simp at this ⊢
            omega
          · rw [decide_eq_false hnd] at hrun ⊢
            simp only [Bool.false_eq_true, if_false] at hrun ⊢
            refine (guarded_panicF 70 _ 1 w3 [] (fun _ => True) enter70 hrun (by simp)).mono ?_
            intro e w' h
            simpa using bad w' e 1 h
        · have hm' : (decide (p.length = r.length) && decide (1 ≤ p.length) && decide ((p.length : Int) ≤ q)) = false := Bool.not_eq_true _ ▸ hm
          rw [hp, he, hr, hm']
          simp only [Bool.and_false, Bool.false_and, Bool.false_eq_true, if_false]
          refine (guarded_panicF 70 _ 1 w3 [] (fun _ => True) enter70 (th1_must q A C c d p r _ _ _ _ _ (h1.alloc _) (h2.alloc _) (h3.alloc _) (hA3.alloc _) (hC3.alloc _) hl hl2 hp he hr hm') (by simp)).mono ?_
          intro e w' h
          simpa using bad w' e 1 h
      · rw [hp, he, (by simpa using hr : elemB q r = false)]
        simp only [Bool.and_false, Bool.false_and, Bool.false_eq_true, if_false]
        refine (guarded_panicF 70 _ 1 w3 [] (fun _ => True) enter70 (th1_outy q A C c d p r _ _ _ _ _ (h1.alloc _) (h2.alloc _) (h3.alloc _) (hA3.alloc _) (hC3.alloc _) hl hl2 hp he (by simpa using hr)) (by simp)).mono ?_
        intro e w' h
        simpa using bad w' e 1 h
    · rw [hp, (by simpa using he : elemB q p = false)]
      simp only [Bool.and_false, Bool.false_and, Bool.false_eq_true, if_false]
      refine (guarded_panicF 70 _ 1 w3 [] (fun _ => True) enter70 (th1_outx q A c p _ _ _ _ _ (h1.alloc _) (h2.alloc _) (hA3.alloc _) hl hp (by simpa using he)) (by simp)).mono ?_
      intro e w' h
      simpa using bad w' e 1 h
  · rw [(by simpa using hp : primeB q = false)]
    simp only [Bool.false_and, Bool.false_eq_true, if_false]
    refine (guarded_panicF 70 _ 1 w3 [] (fun _ => True) enter70 (th1_no q _ _ _ _ _ (h1.alloc _) (by simpa using hp)) (by simp)).mono ?_
    intro e w' h
    simpa using bad w' e 1 h
end Go.Proofs.Ytneliejncfncdaa
