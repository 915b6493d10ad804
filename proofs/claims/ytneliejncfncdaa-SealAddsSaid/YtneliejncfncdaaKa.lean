/- Hunt: the plain model, words for rows of pairs, a test of a range. -/
import Derived.Test.YtneliejncfncdaaIb
import Derived.Test.YtneliejncfncdaaHi
namespace Go.Proofs.Ytneliejncfncdaa
open Go.RowKit

/-- One of some items of a range leaks. -/
def wetB (lk : List Int) (a b : Int) : Bool := lk.any fun n => decide (a ≤ n) && decide (n ≤ b)

/-- The search in a wet range: the leak, and the tests (each two numbers). -/
def srch (lk : List Int) (f l : Int) (ts : List Int) : Int × List Int :=
  if h : f < l then
    if wetB lk f (f + (l - f) / 2) then srch lk f (f + (l - f) / 2) (ts ++ [f, f + (l - f) / 2])
    else srch lk (f + (l - f) / 2 + 1) l (ts ++ [f, f + (l - f) / 2])
  else (f, ts)
termination_by (l - f).toNat
decreasing_by all_goals omega

theorem srch_ge (lk : List Int) (f l : Int) (ts : List Int) : f ≤ l → f ≤ (srch lk f l ts).1 ∧ (srch lk f l ts).1 ≤ l := by
  intro hfl
  rw [srch]
  split
  · rename_i h
    split
    · have := srch_ge lk f (f + (l - f) / 2) (ts ++ [f, f + (l - f) / 2]) (by omega)
      omega
    · have := srch_ge lk (f + (l - f) / 2 + 1) l (ts ++ [f, f + (l - f) / 2]) (by omega)
      omega
  · simp; omega
termination_by (l - f).toNat
decreasing_by all_goals omega

/-- The hunt: the tests, and the leaks that are found. -/
def huntM (lk : List Int) (c f : Int) (ts fd : List Int) : List Int × List Int :=
  if h : f < c then
    if wetB lk f (c - 1) then huntM lk c ((srch lk f (c - 1) (ts ++ [f, c - 1])).1 + 1) (srch lk f (c - 1) (ts ++ [f, c - 1])).2 (fd ++ [(srch lk f (c - 1) (ts ++ [f, c - 1])).1])
    else (ts ++ [f, c - 1], fd)
  else (ts, fd)
termination_by (c - f).toNat
decreasing_by
  have := srch_ge lk f (c - 1) (ts ++ [f, c - 1]) (by omega)
  omega

theorem Try.info48 : (Try.prog.info? 48).map (fun i => (i.zero, i.size, i.bytes)) = some (some (.agg #[.int .i64 0, .int .i64 0]), 2, 16) := by kernel_rfl
theorem Try.under64 : Try.prog.underlying 64 = some (.slice 48) := by kernel_rfl

/-- A row of pairs of the call's own: n pairs, the numbers one after the other. -/
def OwnP (w : World) (base : Nat) (v : Value) (n : Nat) (xs : List Int) : Prop := w.ownsRow base 48 2 v n (xs.map (Value.int .i64))
section
variable {w : World} {base n : Nat} {v : Value} {xs : List Int}
theorem OwnP.out (h : OwnP w base v n xs) : w.ownsRow base 48 2 v n (xs.map (Value.int .i64)) := h
theorem OwnP.nil (w : World) (base : Nat) : OwnP w base (.slice none 0 0) 0 [] := World.ownsRow_nil _ _ _ _
theorem OwnP.len (h : OwnP w base v n xs) : xs.length = n * 2 := by simpa using h.1
theorem OwnP.alloc (h : OwnP w base v n xs) (o : Obj) : OwnP (w.alloc o) base v n xs := World.ownsRow.alloc h o
theorem OwnP.lt (h : OwnP w base v n xs) : ∀ k, v.ownBlock = some k → base ≤ k ∧ k < w.heap.size := World.ownsRow.lt h
theorem OwnP.keep {w' : World} (h : OwnP w base v n xs) (hk : ∀ k, v.ownBlock = some k → w'.heap[k]? = w.heap[k]?) : OwnP w' base v n xs := by
  refine ⟨h.1, ?_⟩
  rcases h.2 with h' | ⟨g, cap, cur, h1, h2, h3, h4⟩
  · exact .inl h'
  · exact .inr ⟨g, cap, cur, h1, h2, (hk g (by rw [h1]; rfl)).trans h3, h4⟩
theorem OwnP.below {w' : World} (h : OwnP w base v n xs) (hb : Below w.heap.size w w') : OwnP w' base v n xs := h.keep fun k hk => hb.block k (h.lt k hk).2
end

/-- append of one pair, at a plain region's list. -/
theorem wpList_pair {ops : Array Oper} {rest : List Oper} {o : Oper} {a : Act} {Q : Exit → Act → World → Prop} (w : World) (hgd : o.guard = none) (s x : Operand)
    (ho : o.op = .call { callee := .builtin .append, args := #[s, x], argTypes := #[64, 64] })
    (base : Nat) (v : Value) (n : Nat) (xs : List Int) (hs : a.eval s = v) (hown : OwnP w base v n xs)
    (H0 : Nat) (y z : Int) (hx : a.eval x = .slice (some ⟨H0, 0, none⟩) 1 1) (hblk : w.heap[H0]? = some (.cells #[.int .i64 y, .int .i64 z] 48 (0, 0)))
    (hn : n ≤ 5000000) (hbase : base ≤ w.heap.size) (H : Nat) (hH : w.heap.size = H)
    (h : ∀ g cap w', OwnP w' base (.slice (some ⟨g, 0, none⟩) (n + 1) cap) (n + 1) (xs ++ [y, z]) → w.grownBy w' v.ownBlock → (v.ownBlock = some g ∨ g = H) → g < w'.heap.size → wpList Try.prog ops Q rest (a.put o.dst (.slice (some ⟨g, 0, none⟩) (n + 1) cap)) w') : wpList Try.prog ops Q (o :: rest) a w := by
  obtain ⟨i0, hi0, hz0, hz1, hz2⟩ := info_parts Try.info48
  refine wpList_append_lies _ hgd s x 64 ho base 48 i0 _ 2 16 Try.under64 hi0 hz0 hz1 hz2 rfl (by omega) v n _ hs hown.out ⟨H0, 0, none⟩ 1 1 [.int .i64 y, .int .i64 z] hx rfl (World.news_of_block (cs := #[.int .i64 y, .int .i64 z]) hblk) (by simp [Value.oneCell'])
    (by omega) (by unfold maxLen; omega) (by omega) hbase H hH ?_
  intro g cap w1 hown1
  exact h g cap w1 (by unfold OwnP; simpa using hown1)

/-- The object of a hunt. -/
structure HuntAt (w : World) (H : Nat) (A : Option Addr) (n c : Nat) (lk : List Int) (vt vf : Value) (nt : Nat) (ts fd : List Int) : Prop where
  blk : w.heap[H]? = some (.cells #[.slice A n c, vt, vf] 101 (0, 0))
  li : Ints w A lk
  old : lk = [] ∨ ∀ a, A = some a → a.block < H
  ts : OwnP w (H + 1) vt nt ts
  fd : OwnI w (H + 1) vf fd.length fd
  ne : ∀ k, vt.ownBlock = some k → vf.ownBlock ≠ some k

theorem enter87 : ∀ args w, (callFunc 87 args).run Try.prog w = .ok (.enter 87 args) w := fun _ _ => by kernel_rfl
theorem between_any (x a b : Int) (P Q : Addr) (w : World) (ha : w.cell? P = some (.int .i64 a)) (hb : w.cell? Q = some (.int .i64 b)) :
    Calls Try.prog 87 #[.int .i64 x, .pointer (some P), .pointer (some Q)] w fun e w' => e = .returned (.bool (decide (a ≤ x) && decide (x ≤ b))) ∧ w' = w := by
  by_cases h1 : a ≤ x
  · have d1 : decide (a ≤ x) = true := decide_eq_true h1
    rw [d1, Bool.true_and]
    cases h2 : decide (x ≤ b) with
    | true =>
      go_enter Try.func87, Try.ntmps87
      go_wp2
      go_ret
      exact ⟨rfl, rfl⟩
    | false =>
      go_enter Try.func87, Try.ntmps87
      go_wp2
      go_ret
      exact ⟨rfl, rfl⟩
  · have d1 : decide (a ≤ x) = false := decide_eq_false h1
    rw [d1, Bool.false_and]
    go_enter Try.func87, Try.ntmps87
    go_wp2
    go_ret
    exact ⟨rfl, rfl⟩
end Go.Proofs.Ytneliejncfncdaa
