/- Texts Ka Kb Kc Kd Ke in one. -/
import Derived.Test.YtneliejncfncdaaPkIa
import Derived.Test.YtneliejncfncdaaPkHa
import Derived.Deep.DeepCutAuto
import Derived.Test.YtneliejncfncdaaPkGa
import Derived.Test.YtneliejncfncdaaPkZ
import Derived.ChangeKeysEq
import Derived.Test.YtneliejncfncdaaPkFa
namespace Go.Proofs.Ytneliejncfncdaa
open Go.RowKit

/-- One of some items of a range leaks. -/
def wetB (lk : List Int) (a b : Int) : Bool := lk.any fun n => decide (a ≤ n) && decide (n ≤ b)

/-- The search in a wet range: the leak, and the tests (each two numbers). -/
def srch (lk : List Int) (f l : Int) (ts : List Int) : Int × List Int :=
  if h : f < l then
    if wetB lk f (f + (l - f) / 2) then srch lk f (f + (l - f) / 2) (ts ++ [f, f + (l - f) / 2])
    else srch lk (f + (l - f) / 2 + 1) l (ts ++ [f, f + (l - f) / 2])
  else (f, ts)
termination_by (l - f).toNat
decreasing_by all_goals omega

theorem srch_ge (lk : List Int) (f l : Int) (ts : List Int) : f ≤ l → f ≤ (srch lk f l ts).1 ∧ (srch lk f l ts).1 ≤ l := by
  intro hfl
  rw [srch]
  split
  · rename_i h
    split
    · have := srch_ge lk f (f + (l - f) / 2) (ts ++ [f, f + (l - f) / 2]) (by omega)
      omega
    · have := srch_ge lk (f + (l - f) / 2 + 1) l (ts ++ [f, f + (l - f) / 2]) (by omega)
      omega
  · simp; omega
termination_by (l - f).toNat
decreasing_by all_goals omega

/-- The hunt: the tests, and the leaks that are found. -/
def huntM (lk : List Int) (c f : Int) (ts fd : List Int) : List Int × List Int :=
  if h : f < c then
    if wetB lk f (c - 1) then huntM lk c ((srch lk f (c - 1) (ts ++ [f, c - 1])).1 + 1) (srch lk f (c - 1) (ts ++ [f, c - 1])).2 (fd ++ [(srch lk f (c - 1) (ts ++ [f, c - 1])).1])
    else (ts ++ [f, c - 1], fd)
  else (ts, fd)
termination_by (c - f).toNat
decreasing_by
  have := srch_ge lk f (c - 1) (ts ++ [f, c - 1]) (by omega)
  omega

theorem Try.info48 : (Try.prog.info? 48).map (fun i => (i.zero, i.size, i.bytes)) = some (some (.agg #[.int .i64 0, .int .i64 0]), 2, 16) := by kernel_rfl
theorem Try.under64 : Try.prog.underlying 64 = some (.slice 48) := by kernel_rfl

/-- A row of pairs of the call's own: n pairs, the numbers one after the other. -/
def OwnP (w : World) (base : Nat) (v : Value) (n : Nat) (xs : List Int) : Prop := w.ownsRow base 48 2 v n (xs.map (Value.int .i64))
section
variable {w : World} {base n : Nat} {v : Value} {xs : List Int}
theorem OwnP.out (h : OwnP w base v n xs) : w.ownsRow base 48 2 v n (xs.map (Value.int .i64)) := h
theorem OwnP.nil (w : World) (base : Nat) : OwnP w base (.slice none 0 0) 0 [] := World.ownsRow_nil _ _ _ _
theorem OwnP.len (h : OwnP w base v n xs) : xs.length = n * 2 := by simpa using h.1
theorem OwnP.alloc (h : OwnP w base v n xs) (o : Obj) : OwnP (w.alloc o) base v n xs := World.ownsRow.alloc h o
theorem OwnP.lt (h : OwnP w base v n xs) : ∀ k, v.ownBlock = some k → base ≤ k ∧ k < w.heap.size := World.ownsRow.lt h
theorem OwnP.keep {w' : World} (h : OwnP w base v n xs) (hk : ∀ k, v.ownBlock = some k → w'.heap[k]? = w.heap[k]?) : OwnP w' base v n xs := by
  refine ⟨h.1, ?_⟩
  rcases h.2 with h' | ⟨g, cap, cur, h1, h2, h3, h4⟩
  · exact .inl h'
  · exact .inr ⟨g, cap, cur, h1, h2, (hk g (by rw [h1]; rfl)).trans h3, h4⟩
theorem OwnP.below {w' : World} (h : OwnP w base v n xs) (hb : Below w.heap.size w w') : OwnP w' base v n xs := h.keep fun k hk => hb.block k (h.lt k hk).2
end

/-- append of one pair, at a plain region's list. -/
theorem wpList_pair {ops : Array Oper} {rest : List Oper} {o : Oper} {a : Act} {Q : Exit → Act → World → Prop} (w : World) (hgd : o.guard = none) (s x : Operand)
    (ho : o.op = .call { callee := .builtin .append, args := #[s, x], argTypes := #[64, 64] })
    (base : Nat) (v : Value) (n : Nat) (xs : List Int) (hs : a.eval s = v) (hown : OwnP w base v n xs)
    (H0 : Nat) (y z : Int) (hx : a.eval x = .slice (some ⟨H0, 0, none⟩) 1 1) (hblk : w.heap[H0]? = some (.cells #[.int .i64 y, .int .i64 z] 48 (0, 0)))
    (hn : n ≤ 5000000) (hbase : base ≤ w.heap.size) (H : Nat) (hH : w.heap.size = H)
    (h : ∀ g cap w', OwnP w' base (.slice (some ⟨g, 0, none⟩) (n + 1) cap) (n + 1) (xs ++ [y, z]) → w.grownBy w' v.ownBlock → (v.ownBlock = some g ∨ g = H) → g < w'.heap.size → wpList Try.prog ops Q rest (a.put o.dst (.slice (some ⟨g, 0, none⟩) (n + 1) cap)) w') : wpList Try.prog ops Q (o :: rest) a w := by
  obtain ⟨i0, hi0, hz0, hz1, hz2⟩ := info_parts Try.info48
  refine wpList_append_lies _ hgd s x 64 ho base 48 i0 _ 2 16 Try.under64 hi0 hz0 hz1 hz2 rfl (by omega) v n _ hs hown.out ⟨H0, 0, none⟩ 1 1 [.int .i64 y, .int .i64 z] hx rfl (World.news_of_block (cs := #[.int .i64 y, .int .i64 z]) hblk) (by simp [Value.oneCell'])
    (by omega) (by unfold maxLen; omega) (by omega) hbase H hH ?_
  intro g cap w1 hown1
  exact h g cap w1 (by unfold OwnP; simpa using hown1)

/-- The object of a hunt. -/
structure HuntAt (w : World) (H : Nat) (A : Option Addr) (n c : Nat) (lk : List Int) (vt vf : Value) (nt : Nat) (ts fd : List Int) : Prop where
  blk : w.heap[H]? = some (.cells #[.slice A n c, vt, vf] 101 (0, 0))
  li : Ints w A lk
  old : lk = [] ∨ ∀ a, A = some a → a.block < H
  ts : OwnP w (H + 1) vt nt ts
  fd : OwnI w (H + 1) vf fd.length fd
  ne : ∀ k, vt.ownBlock = some k → vf.ownBlock ≠ some k

theorem enter87 : ∀ args w, (callFunc 87 args).run Try.prog w = .ok (.enter 87 args) w := fun _ _ => by kernel_rfl
theorem between_any (x a b : Int) (P Q : Addr) (w : World) (ha : w.cell? P = some (.int .i64 a)) (hb : w.cell? Q = some (.int .i64 b)) :
    Calls Try.prog 87 #[.int .i64 x, .pointer (some P), .pointer (some Q)] w fun e w' => e = .returned (.bool (decide (a ≤ x) && decide (x ≤ b))) ∧ w' = w := by
  by_cases h1 : a ≤ x
  · have d1 : decide (a ≤ x) = true := decide_eq_true h1
    rw [d1, Bool.true_and]
    cases h2 : decide (x ≤ b) with
    | true =>
      go_enter Try.func87, Try.ntmps87
      go_wp2
      go_ret
      exact ⟨rfl, rfl⟩
    | false =>
      go_enter Try.func87, Try.ntmps87
      go_wp2
      go_ret
      exact ⟨rfl, rfl⟩
  · have d1 : decide (a ≤ x) = false := decide_eq_false h1
    rw [d1, Bool.false_and]
    go_enter Try.func87, Try.ntmps87
    go_wp2
    go_ret
    exact ⟨rfl, rfl⟩
end Go.Proofs.Ytneliejncfncdaa

namespace Go.Proofs.Ytneliejncfncdaa
open Go.RowKit

/-- Rows below a block stay. -/
theorem At.keepOld {w w' : World} {A : Option Addr} {xs : List Int} {B : Nat} (h : Ints w A xs) (hA : xs = [] ∨ ∀ a, A = some a → a.block < B) (hb : Below B w w') : Ints w' A xs := by
  rcases hA with h0 | hA
  · exact .inl (by rw [h0]; rfl)
  · rcases h with h | ⟨b, off, hA', hlt, hc⟩
    · exact .inl h
    · exact .inr ⟨b, off, hA', Nat.lt_of_lt_of_le hlt hb.size, fun j v hv => (hb.cell (p := ⟨b, off + j, none⟩) (show b < B from hA _ hA')).trans (hc j v hv)⟩
theorem Ints.old {w : World} {A : Option Addr} {xs : List Int} (h : Ints w A xs) : xs = [] ∨ ∀ a, A = some a → a.block < w.heap.size := by
  rcases h with h | ⟨b, off, hA, hlt, _⟩
  · exact .inl (by simpa using h)
  · exact .inr fun a ha => by rw [hA] at ha; cases ha; exact hlt

def RetTest (b : Bool) (H : Nat) (A : Option Addr) (n c : Nat) (lk : List Int) (vf : Value) (nt : Nat) (ts fd : List Int) (w : World) (e : Ending) (w' : World) : Prop :=
  e = .returned (.bool b) ∧ (∃ vt, HuntAt w' H A n c lk vt vf nt ts fd) ∧ Below H w w'

set_option maxRecDepth 100000 in
set_option maxHeartbeats 1600000 in
theorem test_any (H : Nat) (A : Option Addr) (n c : Nat) (lk : List Int) (vt vf : Value) (nt : Nat) (ts fd : List Int) (f l : Int) (w : World) (h : HuntAt w H A n c lk vt vf nt ts fd) (hn : lk.length = n) (hnb : n ≤ 1000000) (hnt : nt ≤ 5000000) :
    Calls Try.prog 74 #[.pointer (some ⟨H, 0, none⟩), .int .i64 f, .int .i64 l] w (RetTest (wetB lk f l) H A n c lk vf (nt + 1) (ts ++ [f, l]) fd w) := by
  obtain ⟨W0, hW0⟩ : ∃ W0, W0 = (w.alloc (.cells #[.int .i64 f] 3)).alloc (.cells #[.int .i64 l] 3) := ⟨_, rfl⟩
  have hrow0 : ∀ k, vt.ownBlock = some k → H + 1 ≤ k ∧ k < w.heap.size := h.ts.lt
  have hrowf : ∀ k, vf.ownBlock = some k → H + 1 ≤ k ∧ k < w.heap.size := h.fd.lt
  have hHs : H < w.heap.size := by
    rcases Nat.lt_or_ge H w.heap.size with h' | h'
    · exact h'
    · have := h.blk; rw [Array.getElem?_eq_none h'] at this; cases this
  have hb0 : Below w.heap.size w W0 := by rw [hW0]; exact ((Below.refl _ _).alloc (Nat.le_refl _) _).alloc (by simp) _
  have hs0 : W0.heap.size = w.heap.size + 2 := by rw [hW0]; simp
  have c0 : W0.cell? ⟨w.heap.size, 0, none⟩ = some (.int .i64 f) := by rw [hW0]; simp [go_sem]
  have c1 : W0.cell? ⟨w.heap.size + 1, 0, none⟩ = some (.int .i64 l) := by rw [hW0]; simp [go_sem]
  have hblk0 : W0.heap[H]? = some (.cells #[.slice A n c, vt, vf] 101 (0, 0)) := (hb0.block H hHs).trans h.blk
  have hlk0 := h.li.below hb0
  have hts0 := h.ts.below hb0
  have hfd0 := h.fd.below hb0
  have hold := h.old
  have hne := h.ne
  have d0 : W0.cell? ⟨H, 0, none⟩ = some (.slice A n c) := by simp [World.cell?, hblk0]
  have d1 : W0.cell? ⟨H, 1, none⟩ = some vt := by simp [World.cell?, hblk0]
  have HB := Lib.hid hb0
  have HBL := Lib.hid hblk0
  have HW := Lib.hid hW0
  have HOLD := Lib.hid hold
  have HNE := Lib.hid hne
  have HR0 := Lib.hid hrow0
  have HRF := Lib.hid hrowf
  clear hW0 hb0 hblk0 hold hne h hrow0 hrowf
  go_enter Try.func74, Try.ntmps74
  go_upto_region 1 with fail
  rw [← HW.out]
  refine Lex.wp_region_lex (fun w' => w'.cell? ⟨H, 1, none⟩ = some vt ∧ w'.cell? ⟨w.heap.size, 0, none⟩ = some (.int .i64 f) ∧ w'.cell? ⟨w.heap.size + 1, 0, none⟩ = some (.int .i64 l)) (fun j => j != 12)
    [(0, true), (1, true), (2, true), (3, true), (4, true), (5, true), (6, true), (7, true), (8, false), (9, false), (10, false), (11, false), (12, false)]
    (by kernel_rfl) (by kernel_rfl) (by kernel_rfl) (by kernel_rfl) ⟨d1, c0, c1⟩ ?_
  repeat (refine Lex.lex_take (v := ?_) rfl rfl (by rfl) (fun _ hS => ?_) ?_; rotate_left 1; (focus (go_split_ands; go_simp; with_reducible rfl)); simp only [List.setIfInBounds_toArray, List.set_cons_zero, List.set_cons_succ])
  refine Lex.lex_do rfl ?_
  go_wp2_with fail
  obtain ⟨W1, hW1⟩ : ∃ W1, W1 = (W0.alloc (.cells #[.int .i64 f, .int .i64 l] 48)).drew := ⟨_, rfl⟩
  rw [← hW1]
  have hb1 : Below W0.heap.size W0 W1 := by rw [hW1]; exact below_drewN' ((Below.refl _ _).alloc (Nat.le_refl _) _) 1
  have hs1 : W1.heap.size = w.heap.size + 3 := by rw [hW1]; simp [hs0]
  have hnw : W1.heap[w.heap.size + 2]? = some (.cells #[.int .i64 f, .int .i64 l] 48 (0, 0)) := by
    rw [hW1]
    have := heap_alloc_new W0 (.cells #[.int .i64 f, .int .i64 l] 48)
    rw [hs0] at this
    exact this
  have e1 : W1.cell? ⟨H, 1, none⟩ = some vt := (hb1.cell (p := ⟨H, 1, none⟩) (by simp; omega)).trans d1
  have ec0 : W1.cell? ⟨w.heap.size, 0, none⟩ = some (.int .i64 f) := (hb1.cell (p := ⟨w.heap.size, 0, none⟩) (by simp; omega)).trans c0
  have ec1 : W1.cell? ⟨w.heap.size + 1, 0, none⟩ = some (.int .i64 l) := (hb1.cell (p := ⟨w.heap.size + 1, 0, none⟩) (by simp; omega)).trans c1
  have hts1 := hts0.below hb1
  have hfd1 := hfd0.below hb1
  have hlk1 := Ints.below hlk0 hb1
  have hblk1 := (hb1.block H (by omega)).trans HBL.out
  have hB1 := (HB.out.mono (B' := H) (by omega)).trans (hb1.mono (by omega))
  refine Lex.lexQ_normal (fun _ => ⟨e1, ec0, ec1⟩) ?_
  have HW1 := Lib.hid hW1
  have HBLK1 := Lib.hid hblk1
  clear hW1 hb1 c0 c1 d0 d1 e1 hts0 hfd0 hlk0 HBL HW hblk1
  refine Lex.lex_do rfl ?_
  refine wpList_pair _ rfl _ _ rfl (H + 1) _ nt ts rfl hts1 (w.heap.size + 2) f l rfl hnw hnt (by omega) (w.heap.size + 3) hs1 ?_
  intro g cap w2 hts2 hgr hat hlt2
  have hkeep : ∀ k, k < W1.heap.size → (vt.ownBlock ≠ some k) → w2.heap[k]? = W1.heap[k]? := fun k hk hne => hgr.block k hk (fun e => hne (Eq.symm e))
  have hsz2 := hgr.size
  have hblk2 : w2.heap[H]? = some (.cells #[.slice A n c, vt, vf] 101 (0, 0)) := (hkeep H (by omega) (fun e => by have := HR0.out _ e; omega)).trans HBLK1.out
  have hc0 : w2.cell? ⟨w.heap.size, 0, none⟩ = some (.int .i64 f) := (World.cell?_of_block (hkeep w.heap.size (by omega) (fun e => by have := HR0.out _ e; omega))).trans ec0
  have hc1 : w2.cell? ⟨w.heap.size + 1, 0, none⟩ = some (.int .i64 l) := (World.cell?_of_block (hkeep (w.heap.size + 1) (by omega) (fun e => by have := HR0.out _ e; omega))).trans ec1
  have hB2 : Below H W1 w2 := ⟨hgr.os, hgr.tape, hgr.output, hgr.size, fun k hk => hkeep k (by omega) (fun e => by have := HR0.out _ e; omega)⟩
  have hlk2 : Ints w2 A lk := At.keepOld (B := H) hlk1 HOLD.out hB2
  have hfd2 : OwnI w2 (H + 1) vf fd.length fd := hfd1.keep fun k hk => hkeep k (by have := HRF.out _ hk; omega) (fun e => HNE.out k e hk)
  have hg1 : H + 1 ≤ g := (hts2.lt g rfl).1
  have hBa := hB1.trans hB2
  have hnf : ∀ k, (Value.slice (some ⟨g, 0, none⟩) (nt + 1) cap).ownBlock = some k → vf.ownBlock ≠ some k := by
    intro k hk hv
    simp only [Value.ownBlock, Option.some.injEq] at hk
    subst hk
    rcases hat with h | h
    · exact HNE.out _ h hv
    · have := HRF.out _ hv
      omega
  have e1 : w2.cell? ⟨H, 1, none⟩ = some vt := by simp [World.cell?, hblk2]
  have hz1 : w2.frozen? ⟨H, 1, none⟩ = false := by simp [World.frozen?, hblk2]
  have HNF := Lib.hid hnf
  have HBLK2 := Lib.hid hblk2
  clear hkeep hgr hat hts1 hfd1 hlk1 ec0 ec1 hB1 HBLK1 hnf hblk2
  go_wp2_with fail
  refine Lex.lexQ_normal (fun _ => ⟨e1, hc0, hc1⟩) ?_
  refine Lex.lex_do rfl ?_
  go_wp2_with fail
  refine Lex.lexQ_normal (fun _ => ⟨e1, hc0, hc1⟩) ?_
  refine Lex.lex_do rfl ?_
  go_wp2_with fail
  refine Lex.lexQ_normal (fun _ => ⟨e1, hc0, hc1⟩) ?_
  refine Lex.lex_do rfl ?_
  go_wp2_with fail
  refine Lex.lexQ_normal (fun h => absurd h (by decide)) ?_
  refine Lex.lex_nil ?_
  obtain ⟨w3, hw3⟩ : ∃ w3, w3 = w2.setCell ⟨H, 1, none⟩ (.slice (some ⟨g, 0, none⟩) (nt + 1) cap) := ⟨_, rfl⟩
  rw [← hw3]
  have hot : ∀ k, k ≠ H → w3.heap[k]? = w2.heap[k]? := fun k hk => by rw [hw3]; exact Below.heap_setCell _ _ _ _ hk
  have hs3 : w3.heap.size = w2.heap.size := by rw [hw3]; simp [World.setCell]
  have hblk3 : w3.heap[H]? = some (.cells #[.slice A n c, .slice (some ⟨g, 0, none⟩) (nt + 1) cap, vf] 101 (0, 0)) := by
    rw [hw3]
    exact heap_setCell_same w2 H 1 _ 101 _ HBLK2.out
  have hB3 : Below H w w3 := by rw [hw3]; exact hBa.setCell (Nat.le_refl _) _
  have hh : HuntAt w3 H A n c lk (.slice (some ⟨g, 0, none⟩) (nt + 1) cap) vf (nt + 1) (ts ++ [f, l]) fd :=
    ⟨hblk3, At.keepOld (B := H) hlk2 HOLD.out (by rw [hw3]; exact (Below.refl H w2).setCell (Nat.le_refl _) _), HOLD.out, hts2.keep fun k hk => hot k (by have := hts2.lt k hk; omega), hfd2.keep fun k hk => hot k (by have := HRF.out _ hk; omega), HNF.out⟩
  have k0 : w3.cell? ⟨w.heap.size, 0, none⟩ = some (.int .i64 f) := (World.cell?_of_block (hot w.heap.size (by omega))).trans hc0
  have k1 : w3.cell? ⟨w.heap.size + 1, 0, none⟩ = some (.int .i64 l) := (World.cell?_of_block (hot (w.heap.size + 1) (by omega))).trans hc1
  have k2 : w3.cell? ⟨H, 0, none⟩ = some (.slice A n c) := by simp [World.cell?, hblk3]
  have c86 := contains_any 87 #[.pointer (some ⟨w.heap.size, 0, none⟩), .pointer (some ⟨w.heap.size + 1, 0, none⟩)] (fun x => decide (f ≤ x) && decide (x ≤ l)) (fun _ => True) A n c lk w3 enter87 (fun x _ => between_any x f l _ _ w3 k0 k1) hh.li hn hnb
  have hmf : ∀ (fn : Fn) (first cap : Array Value) (w : World), (Instr.makeFunc fn first cap).run Try.prog w = .ok (.func fn first cap) w := fun _ _ _ _ => rfl
  clear hot hs3 hblk3 hw3 hc0 hc1 e1 hz1 hts2 hfd2 hlk2 HBLK2 k0 k1
  go_wp2_with fail
  refine c86.mono ?_
  rintro e w4 ⟨rfl, rfl⟩
  go_wp2
  go_ret
  exact ⟨rfl, ⟨_, hh⟩, hB3⟩
end Go.Proofs.Ytneliejncfncdaa

namespace Go.Proofs.Ytneliejncfncdaa
open Go.RowKit

/-- A slice of pairs. -/
def PSl (w : World) (v : Value) (n : Nat) (ts : List Int) : Prop := ∃ A c, v = .slice A n c ∧ At w A (ts.map (Value.int .i64)) ∧ ts.length = n * 2 ∧ n ≤ maxLen
theorem OwnP.psl {w : World} {base n : Nat} {v : Value} {xs : List Int} (h : OwnP w base v n xs) : PSl w v n xs := by
  have hl := h.len
  rcases h.2 with ⟨hv, h0⟩ | ⟨g, cap, cur, hv, hb, hg, hn, hm, hs, ht⟩
  · have : xs = [] := by
      subst h0
      exact List.eq_nil_of_length_eq_zero (by omega)
    subst this
    refine ⟨none, 0, ?_, .inl rfl, by omega, by omega⟩
    rw [hv, h0]
  · refine ⟨_, cap, hv, .inr ⟨g, 0, rfl, ?_, ?_⟩, hl, by omega⟩
    · rcases Nat.lt_or_ge g w.heap.size with h | h
      · exact h
      · rw [Array.getElem?_eq_none h] at hg; cases hg
    · intro j u hu
      have := World.ownsRow.cells h.out (g := g) (by rw [hv]; rfl) j u hu
      rw [Addr.add_lit] at this
      exact this

theorem HuntAt.lt {w : World} {H : Nat} {A : Option Addr} {n c : Nat} {lk : List Int} {vt vf : Value} {nt : Nat} {ts fd : List Int} (h : HuntAt w H A n c lk vt vf nt ts fd) : H < w.heap.size := by
  rcases Nat.lt_or_ge H w.heap.size with h' | h'
  · exact h'
  · have := h.blk; rw [Array.getElem?_eq_none h'] at this; cases this
/-- A leak is found: the row grows. -/
theorem HuntAt.grow {w w3 : World} {H : Nat} {A : Option Addr} {n c : Nat} {lk : List Int} {vt vf : Value} {nt : Nat} {ts fd : List Int} (h : HuntAt w H A n c lk vt vf nt ts fd)
    (o : Obj) (g : Nat) (hgr : (w.alloc o).grownBy w3 vf.ownBlock) (hat : vf.ownBlock = some g ∨ g = w.heap.size + 1) :
    w3.heap[H]? = some (.cells #[.slice A n c, vt, vf] 101 (0, 0)) ∧ Ints w3 A lk ∧ OwnP w3 (H + 1) vt nt ts ∧ (∀ k, vt.ownBlock = some k → k ≠ g) ∧ Below H w w3 := by
  have hlt := h.lt
  have hrf := h.fd.lt
  have hrt := h.ts.lt
  have hkeep : ∀ k, k < w.heap.size → (vf.ownBlock ≠ some k) → w3.heap[k]? = w.heap[k]? := fun k hk hne => (hgr.block k (by simp; omega) (fun e => hne e.symm)).trans (Below.heap_alloc _ _ _ hk)
  have hsz := hgr.size
  simp at hsz
  have hb : Below H w w3 := ⟨hgr.os, hgr.tape, hgr.output, by omega, fun k hk => hkeep k (by omega) (fun e => by have := hrf k e; omega)⟩
  refine ⟨(hkeep H hlt (fun e => by have := hrf _ e; omega)).trans h.blk, At.keepOld (B := H) h.li h.old hb, h.ts.keep fun k hk => hkeep k (hrt k hk).2 (h.ne k hk), fun k hk e => ?_, hb⟩
  subst e
  rcases hat with h' | h'
  · exact h.ne _ hk h'
  · have := hrt _ hk; omega
theorem HuntAt.put {w w3 : World} {H : Nat} {A : Option Addr} {n c : Nat} {lk : List Int} {vt vf : Value} {nt : Nat} {ts fd : List Int} (h : HuntAt w H A n c lk vt vf nt ts fd)
    (o : Obj) (g cap : Nat) (y : Int) (hgr : (w.alloc o).grownBy w3 vf.ownBlock) (hat : vf.ownBlock = some g ∨ g = w.heap.size + 1) (ho : OwnI w3 (H + 1) (.slice (some ⟨g, 0, none⟩) (fd.length + 1) cap) (fd.length + 1) (fd ++ [y])) :
    HuntAt (w3.setCell ⟨H, 2, none⟩ (.slice (some ⟨g, 0, none⟩) (fd.length + 1) cap)) H A n c lk vt (.slice (some ⟨g, 0, none⟩) (fd.length + 1) cap) nt ts (fd ++ [y]) ∧ Below H w (w3.setCell ⟨H, 2, none⟩ (.slice (some ⟨g, 0, none⟩) (fd.length + 1) cap)) := by
  obtain ⟨h1, h2, h3, h4, h5⟩ := h.grow o g hgr hat
  have hot : ∀ k, k ≠ H → (w3.setCell ⟨H, 2, none⟩ (.slice (some ⟨g, 0, none⟩) (fd.length + 1) cap)).heap[k]? = w3.heap[k]? := fun k hk => Below.heap_setCell _ _ _ _ hk
  have hbs : Below H w3 (w3.setCell ⟨H, 2, none⟩ (.slice (some ⟨g, 0, none⟩) (fd.length + 1) cap)) := (Below.refl H w3).setCell (Nat.le_refl _) _
  refine ⟨⟨heap_setCell_same w3 H 2 _ 101 _ h1, At.keepOld (B := H) h2 h.old hbs, h.old, h3.keep fun k hk => hot k (by have := h3.lt k hk; omega), ?_, ?_⟩, h5.trans hbs⟩
  · have e : (fd ++ [y]).length = fd.length + 1 := by simp
    rw [e]
    exact ho.keep fun k hk => hot k (by have := ho.lt k hk; omega)
  · intro k hk hv
    simp only [Value.ownBlock, Option.some.injEq] at hv
    exact h4 k hk hv.symm

/-- The three results of Hunt. -/
def RetHunt (ts fd : List Int) (n : Int) (w : World) (e : Ending) (w' : World) : Prop :=
  ∃ vt vf nt, e = .returned (.tuple #[vt, vf, .int .i64 n]) ∧ PSl w' vt nt ts ∧ SlI w' vf fd ∧ Below w.heap.size w w'

set_option maxRecDepth 100000 in
set_option maxHeartbeats 1600000 in
theorem Hunt_bad (q : Int) (A : Option Addr) (n c : Nat) (lk : List Int) (w : World) (hA : Ints w A lk) (hn : lk.length = n) (hnb : n ≤ 1000000) (h : q < 0 ∨ 1000 < q ∨ rsB q (-1) lk = false) :
    Calls Try.prog 43 #[.int .i64 q, .slice A n c] w (RetHunt [] [] 1 w) := by
  by_cases h1 : q < 0
  · clear h
    go_enter Try.func43, Try.ntmps43
    go_wp2
    refine bodyPost_ret (v := .tuple #[.slice none 0 0, .slice none 0 0, .int .i64 1]) (by simp [results, Try.results43, go_sem]) rfl ⟨_, _, 0, rfl, ⟨none, 0, rfl, .inl rfl, rfl, by omega⟩, SlI.nil _, Below.refl _ _⟩
  · by_cases h2 : 1000 < q
    · clear h
      have d1 : decide (q < 0) = false := decide_eq_false h1
      have d2 : decide (1000 < q) = true := decide_eq_true h2
      go_enter Try.func43, Try.ntmps43
      go_wp2
      refine bodyPost_ret (v := .tuple #[.slice none 0 0, .slice none 0 0, .int .i64 1]) (by simp [results, Try.results43, go_sem]) rfl ⟨_, _, 0, rfl, ⟨none, 0, rfl, .inl rfl, rfl, by omega⟩, SlI.nil _, Below.refl _ _⟩
    · have hr : rsB q (-1) lk = false := by
        rcases h with h | h | h
        · exact absurd h h1
        · exact absurd h h2
        · exact h
      have d1 : decide (q < 0) = false := decide_eq_false h1
      have d2 : decide (1000 < q) = false := decide_eq_false h2
      have c73 : ∀ W, Ints W A lk → Calls Try.prog 73 #[.slice A n c, .int .i64 q] W fun e w' => e = .returned (.bool false) ∧ W = w' := fun W hI => by
        have := (rising_any A c n lk q W hI hn hnb).mono fun e w' h => (⟨h.1, h.2.symm⟩ : e = .returned (.bool (rsB q (-1) lk)) ∧ W = w')
        rwa [hr] at this
      clear h hr hn
      go_enter Try.func43, Try.ntmps43
      go_wp2_with (go_at_call 73; refine (c73 _ hA).mono ?_; rintro e w' ⟨rfl, rfl⟩)
      refine bodyPost_ret (v := .tuple #[.slice none 0 0, .slice none 0 0, .int .i64 1]) (by simp [results, Try.results43, go_sem]) rfl ⟨_, _, 0, rfl, ⟨none, 0, rfl, .inl rfl, rfl, by omega⟩, SlI.nil _, Below.refl _ _⟩

set_option maxRecDepth 100000 in
set_option maxHeartbeats 3200000 in
theorem Hunt_good (q : Int) (A : Option Addr) (n c : Nat) (lk : List Int) (w : World) (hA : Ints w A lk) (hn : lk.length = n) (hnb : n ≤ 1000000) (hq : 0 ≤ q ∧ q ≤ 1000) (hr : rsB q (-1) lk = true) :
    Calls Try.prog 43 #[.int .i64 q, .slice A n c] w (RetHunt (huntM lk q 0 [] []).1 (huntM lk q 0 [] []).2 0 w) := by
  obtain ⟨hq1, hq2⟩ := hq
  have d1 : decide (q < 0) = false := decide_eq_false (by omega)
  have d2 : decide (1000 < q) = false := decide_eq_false (by omega)
  have c73 : ∀ W, Ints W A lk → Calls Try.prog 73 #[.slice A n c, .int .i64 q] W fun e w' => e = .returned (.bool true) ∧ W = w' := fun W hI => by
    have := (rising_any A c n lk q W hI hn hnb).mono fun e w' h => (⟨h.1, h.2.symm⟩ : e = .returned (.bool (rsB q (-1) lk)) ∧ W = w')
    rwa [hr] at this
  obtain ⟨W0, hW0⟩ : ∃ W0, W0 = w.alloc (.cells #[.slice A n c, .slice none 0 0, .slice none 0 0] 101) := ⟨_, rfl⟩
  have hh0 : HuntAt W0 w.heap.size A n c lk (.slice none 0 0) (.slice none 0 0) 0 [] [] := by
    rw [hW0]
    exact ⟨heap_alloc_new w _, Ints.alloc hA _, hA.old, OwnP.nil _ _, OwnI.nil _ _, by intro k hk; cases hk⟩
  have hb0 : Below w.heap.size w W0 := by rw [hW0]; exact (Below.refl _ _).alloc (Nat.le_refl _) _
  have HW := Lib.hid hW0
  have HN := Lib.hid hn
  obtain ⟨R, hR⟩ : ∃ R, huntM lk q 0 [] [] = R := ⟨_, rfl⟩
  rw [hR]
  clear hW0 hr hn
  go_enter Try.func43, Try.ntmps43
  go_wp2_with (go_at_call 73; refine (c73 _ hA).mono ?_; rintro e w' ⟨rfl, rfl⟩)
  rw [← HW.out]
  go_loopw [8] (fun i wr => ∃ (f : Int) (ts fd : List Int) (vt vf : Value) (nt : Nat), i = .int .i64 f ∧ 0 ≤ f ∧ f ≤ q ∧ HuntAt wr w.heap.size A n c lk vt vf nt ts fd ∧ (nt : Int) ≤ 1002 * f ∧ (fd.length : Int) ≤ f ∧ huntM lk q f ts fd = R ∧ Below w.heap.size w wr) (fun i _ => (q - intOf i).toNat)
  case atStart => exact ⟨0, [], [], _, _, 0, rfl, by omega, hq1, hh0, by simp, by simp, hR, hb0⟩
  case round =>
    clear hh0 hb0
    obtain ⟨f, ts, fd, vt, vf, nt, rfl, hf1, hf2, hh, hnt, hfl, hM, hbl⟩ := hrel
    have HM := Lib.hid hM
    clear hM
    have hw1 : IntKind.i64.wrap (q - 1) = q - 1 := IntWalk.i64_in _ (by omega)
    by_cases hlt : f < q
    · have c74 := test_any w.heap.size A n c lk vt vf nt ts fd f (q - 1) wr hh HN.out hnb (by omega)
      have hMs := HM.out
      rw [huntM, dif_pos hlt] at hMs
      cases hw : wetB lk f (q - 1) with
      | false =>
        rw [hw] at hMs c74
        simp only [Bool.false_eq_true, if_false] at hMs
        have HMS := Lib.hid hMs
        clear hMs
        go_wp2_with fail
        refine c74.mono ?_
        rintro e w1 ⟨rfl, ⟨vt1, hh1⟩, hb1⟩
        have k1 : w1.cell? ⟨w.heap.size, 1, none⟩ = some vt1 := by simp [World.cell?, hh1.blk]
        have k2 : w1.cell? ⟨w.heap.size, 2, none⟩ = some vf := by simp [World.cell?, hh1.blk]
        have hbf := hbl.trans hb1
        clear hh hbl hb1
        go_wp2
        go_quiet (fail)
        go_wp2
        refine bodyPost_ret (v := .tuple #[vt1, vf, .int .i64 0]) (by simp [results, Try.results43, go_sem]) rfl ?_
        refine ⟨vt1, vf, nt + 1, rfl, ?_, ?_, below_drewN' hbf _⟩
        · rw [← HMS.out]; exact hh1.ts.psl
        · rw [← HMS.out]; exact hh1.fd.sli
      | true =>
        rw [hw] at hMs c74
        simp only [if_true] at hMs
        have HMS := Lib.hid hMs
        clear hMs
        go_wp2_with fail
        refine c74.mono ?_
        rintro e w1 ⟨rfl, ⟨vt1, hh1⟩, hb1⟩
        have hbl1 := hbl.trans hb1
        clear hh hbl hb1
        obtain ⟨S, hS⟩ : ∃ S, srch lk f (q - 1) (ts ++ [f, q - 1]) = S := ⟨_, rfl⟩
        have hSr := srch_ge lk f (q - 1) (ts ++ [f, q - 1]) (by omega)
        have hms2 := HMS.out
        rw [hS] at hms2 hSr
        have HM2 := Lib.hid hms2
        have HS := Lib.hid hS
        have HSR := Lib.hid hSr
        clear hms2 hS hSr HMS HM
        go_wp2
        go_loopw [9, 10] (fun i j wr => ∃ (a b : Int) (vt : Value) (nt2 : Nat) (ts2 : List Int), i = .int .i64 a ∧ j = .int .i64 b ∧ f ≤ a ∧ a ≤ b ∧ b ≤ q - 1 ∧ HuntAt wr w.heap.size A n c lk vt vf nt2 ts2 fd ∧ (nt2 : Int) ≤ nt + 1 + ((q - 1 - f) - (b - a)) ∧ srch lk a b ts2 = S ∧ Below w.heap.size w wr) (fun i j _ => (intOf j - intOf i).toNat)
        case atStart => exact ⟨f, q - 1, vt1, nt + 1, _, rfl, rfl, by omega, by omega, by omega, hh1, by omega, HS.out, hbl1⟩
        case round =>
          clear hh1 hbl1
          obtain ⟨a, b, vt2, nt2, ts2, rfl, rfl, ha1, ha2, ha3, hh2, hnt2, hs2, hbl2⟩ := hrel
          have HS2 := Lib.hid hs2
          clear hs2
          by_cases hab : a < b
          · have hd1 : 0 ≤ (b - a) / 2 := by omega
            have hd2 : a + (b - a) / 2 < b := by omega
            have c74b := test_any w.heap.size A n c lk vt2 vf nt2 ts2 fd a (a + (b - a) / 2) wr hh2 HN.out hnb (by omega)
            have hss := HS2.out
            rw [srch, dif_pos hab] at hss
            have hw2 : IntKind.i64.wrap (b - a) = b - a := IntWalk.i64_in _ (by omega)
            have htd : (b - a).tdiv 2 = (b - a) / 2 := Int.tdiv_eq_ediv_of_nonneg (by omega)
            have hw3 : IntKind.i64.wrap ((b - a) / 2) = (b - a) / 2 := IntWalk.i64_in _ (by omega)
            have hw4 : IntKind.i64.wrap (a + (b - a) / 2) = a + (b - a) / 2 := IntWalk.i64_in _ (by omega)
            have hw5 : IntKind.i64.wrap (a + (b - a) / 2 + 1) = a + (b - a) / 2 + 1 := IntWalk.i64_in _ (by omega)
            cases hwb : wetB lk a (a + (b - a) / 2) with
            | true =>
              rw [hwb] at hss c74b
              simp only [if_true] at hss
              have HSS := Lib.hid hss
              clear hss
              go_wp2_with fail
              refine c74b.mono ?_
              rintro e w3 ⟨rfl, ⟨vt3, hh3⟩, hb3⟩
              have hbl3 := hbl2.trans hb3
              clear hh2 hbl2 hb3
              go_wp2
              go_roundw
              case rel => exact ⟨a, a + (b - a) / 2, vt3, nt2 + 1, _, rfl, rfl, ha1, by omega, by omega, hh3, by omega, HSS.out, hbl3⟩
              case measure => simp [intOf]; omega
            | false =>
              rw [hwb] at hss c74b
              simp only [Bool.false_eq_true, if_false] at hss
              have HSS := Lib.hid hss
              clear hss
              go_wp2_with fail
              refine c74b.mono ?_
              rintro e w3 ⟨rfl, ⟨vt3, hh3⟩, hb3⟩
              have hbl3 := hbl2.trans hb3
              clear hh2 hbl2 hb3
              go_wp2
              go_roundw
              case rel => exact ⟨a + (b - a) / 2 + 1, b, vt3, nt2 + 1, _, rfl, rfl, by omega, by omega, by omega, hh3, by omega, HSS.out, hbl3⟩
              case measure => simp [intOf]; omega
          · obtain rfl : a = b := by omega
            have hss := HS2.out
            rw [srch, dif_neg (by omega)] at hss
            have hms2 := HM2.out
            rw [← hss] at hms2
            have HM3 := Lib.hid hms2
            clear hss hms2 HSR HS HS2 HM2
            have k2 : wr.cell? ⟨w.heap.size, 2, none⟩ = some vf := by simp [World.cell?, hh2.blk]
            have hfz : wr.frozen? ⟨w.heap.size, 2, none⟩ = false := by simp [World.frozen?, hh2.blk]
            have hHs : w.heap.size < wr.heap.size := by
              rcases Nat.lt_or_ge w.heap.size wr.heap.size with h' | h'
              · exact h'
              · have := hh2.blk; rw [Array.getElem?_eq_none h'] at this; cases this
            have HH2 := Lib.hid hh2
            have hfd := hh2.fd
            have hfdl : fd.length ≤ 1000 := by omega
            have hw6 : IntKind.i64.wrap (a + 1) = a + 1 := IntWalk.i64_in _ (by omega)
            clear hh2
            go_wp2_with (at_builtin; refine wpList_int _ rfl _ _ rfl (w.heap.size + 1) _ fd.length fd rfl (hfd.alloc _) wr.heap.size a rfl (heap_alloc_new wr _) (by omega) (by simp; omega) (wr.heap.size + 1) (by simp) ?_)
            intro g cap w3 hfd3 hgr hat hlt3
            obtain ⟨hh3, hb3⟩ := HH2.out.put _ g cap a hgr hat hfd3
            have hgs := HH2.out.grow _ g hgr hat
            have hblk3 := hgs.1
            have f2 : w3.cell? ⟨w.heap.size, 2, none⟩ = some vf := by simp [World.cell?, hblk3]
            have z2 : w3.frozen? ⟨w.heap.size, 2, none⟩ = false := by simp [World.frozen?, hblk3]
            have hbl3 := hbl2.trans hb3
            clear hgr hat hfd3 hgs hblk3 hb3 HH2 hfd k2 hfz hbl2
            go_wp2
            go_roundw
            case rel => exact ⟨a + 1, ts2, fd ++ [a], vt2, _, nt2, rfl, by omega, by omega, hh3, by omega, by simp; omega, HM3.out, hbl3⟩
            case measure => simp [intOf]; omega
    · have hMs := HM.out
      rw [huntM, dif_neg hlt] at hMs
      have HMS := Lib.hid hMs
      clear hMs
      have k1 : wr.cell? ⟨w.heap.size, 1, none⟩ = some vt := by simp [World.cell?, hh.blk]
      have k2 : wr.cell? ⟨w.heap.size, 2, none⟩ = some vf := by simp [World.cell?, hh.blk]
      go_wp2
      go_quiet (fail)
      go_wp2
      refine bodyPost_ret (v := .tuple #[vt, vf, .int .i64 0]) (by simp [results, Try.results43, go_sem]) rfl ?_
      refine ⟨vt, vf, nt, rfl, ?_, ?_, below_drewN' hbl _⟩
      · rw [← HMS.out]; exact hh.ts.psl
      · rw [← HMS.out]; exact hh.fd.sli
end Go.Proofs.Ytneliejncfncdaa

namespace Go.Proofs.Ytneliejncfncdaa
open Go.RowKit

set_option maxHeartbeats 800000 in
theorem refwet_any (A : Option Addr) (n c : Nat) (lk : List Int) (a b : Int) (w : World) (hA : Ints w A lk) (hn : lk.length = n) (hnb : n ≤ 1000000) :
    Calls Try.prog 75 #[.slice A n c, .int .i64 a, .int .i64 b] w fun e w' => e = .returned (.bool (wetB lk a b)) ∧ w' = w := by
  have HN := Lib.hid hn
  have c63 : ∀ (x : Int) W, Calls Try.prog 63 #[.int .i64 x, .int .i64 a, .int .i64 b] W fun e w' => e = .returned (.bool (decide (a ≤ x) && decide (x ≤ b))) ∧ W = w' := fun x W => (in_any x a b W).mono fun e w' h => ⟨h.1, h.2.symm⟩
  clear hn
  go_enter Try.func75, Try.ntmps75
  go_wp2
  go_loop [7] (fun i => ∃ k : Nat, k ≤ n ∧ i = .int .i64 k ∧ wetB (lk.take k) a b = false) (fun i => n - (intOf i).toNat)
  case atStart => exact ⟨0, by omega, rfl, rfl⟩
  case round =>
    obtain ⟨k, hk, rfl, ht⟩ := hrel
    by_cases hlt : k < n
    · obtain ⟨bb, o, rfl, hl, hc⟩ := hA.get (k := k) (by rw [HN.out]; exact hlt)
      have hkl : k < lk.length := by rw [HN.out]; exact hlt
      have hx : lk.take (k + 1) = lk.take k ++ [lk[k]] := by rw [List.take_add_one, List.getElem?_eq_getElem hkl]; rfl
      have hin : lk[k] ∈ lk := List.getElem_mem hkl
      generalize lk[k] = x at *
      have c1 := c63 x
      cases hxb : (decide (a ≤ x) && decide (x ≤ b)) with
      | true =>
        have hw : wetB lk a b = true := by unfold wetB; rw [List.any_eq_true]; exact ⟨x, hin, hxb⟩
        have HW := Lib.hid hw
        rw [hxb] at c1
        clear hx ht hin hw hxb c63
        go_wp2_with fail
        refine (c1 _).mono ?_
        rintro e w' ⟨rfl, rfl⟩
        go_wp2
        go_ret
        exact ⟨ret_bool HW.out.symm, rfl⟩
      | false =>
        have hw : wetB (lk.take (k + 1)) a b = false := by
          unfold wetB at ht ⊢
          rw [hx, List.any_append, ht]
          simpa using hxb
        have HW := Lib.hid hw
        rw [hxb] at c1
        clear hx ht hin hw hxb c63
        go_wp2_with fail
        refine (c1 _).mono ?_
        rintro e w' ⟨rfl, rfl⟩
        go_wp2
        go_round
        case rel => exact ⟨k + 1, by omega, by go_num, HW.out⟩
        case measure => simp [intOf]; omega
    · obtain rfl : k = n := by omega
      rw [List.take_of_length_le (by rw [HN.out]; omega)] at ht
      have HT := Lib.hid ht
      clear ht
      go_wp2
      go_ret
      exact ⟨ret_bool HT.out.symm, rfl⟩

/-- Two rows of the call's own: the tests, and what was found. -/
structure Two (w : World) (B : Nat) (vt vf : Value) (nt : Nat) (ts fd : List Int) : Prop where
  ts : OwnP w B vt nt ts
  fd : OwnI w B vf fd.length fd
  ne : ∀ k, vt.ownBlock = some k → vf.ownBlock ≠ some k
section
variable {w w3 : World} {B : Nat} {vt vf : Value} {nt : Nat} {ts fd : List Int}
theorem Two.pair (h : Two w B vt vf nt ts fd) (o : Obj) (g cap : Nat) (y z : Int) (hgr : (w.alloc o).grownBy w3 vt.ownBlock) (hat : vt.ownBlock = some g ∨ g = w.heap.size + 1)
    (ho : OwnP w3 B (.slice (some ⟨g, 0, none⟩) (nt + 1) cap) (nt + 1) (ts ++ [y, z])) : Two w3 B (.slice (some ⟨g, 0, none⟩) (nt + 1) cap) vf (nt + 1) (ts ++ [y, z]) fd := by
  have hrf := h.fd.lt
  refine ⟨ho, h.fd.keep fun k hk => (hgr.block k (by have := hrf k hk; simp; omega) (fun e => h.ne k e.symm hk)).trans (Below.heap_alloc _ _ _ (hrf k hk).2), fun k hk hv => ?_⟩
  simp only [Value.ownBlock, Option.some.injEq] at hk
  subst hk
  rcases hat with h' | h'
  · exact h.ne _ h' hv
  · have := hrf _ hv; omega
theorem Two.put (h : Two w B vt vf nt ts fd) (o : Obj) (g cap : Nat) (y : Int) (hgr : (w.alloc o).grownBy w3 vf.ownBlock) (hat : vf.ownBlock = some g ∨ g = w.heap.size + 1)
    (ho : OwnI w3 B (.slice (some ⟨g, 0, none⟩) (fd.length + 1) cap) (fd.length + 1) (fd ++ [y])) : Two w3 B vt (.slice (some ⟨g, 0, none⟩) (fd.length + 1) cap) nt ts (fd ++ [y]) := by
  have hrt := h.ts.lt
  refine ⟨h.ts.keep fun k hk => (hgr.block k (by have := hrt k hk; simp; omega) (fun e => h.ne k hk e.symm)).trans (Below.heap_alloc _ _ _ (hrt k hk).2), by simpa using ho, fun k hk hv => ?_⟩
  simp only [Value.ownBlock, Option.some.injEq] at hv
  subst hv
  rcases hat with h' | h'
  · exact h.ne _ hk h'
  · have := hrt _ hk; omega
end

/-- The two results of the reference's Hunt. -/
def RetHunt2 (ts fd : List Int) (w : World) (e : Ending) (w' : World) : Prop :=
  ∃ vt vf nt, e = .returned (.tuple #[vt, vf]) ∧ PSl w' vt nt ts ∧ SlI w' vf fd ∧ Below w.heap.size w w'

set_option maxRecDepth 100000 in
set_option maxHeartbeats 3200000 in
theorem refHunt_any (q : Int) (A : Option Addr) (n c : Nat) (lk : List Int) (w : World) (hA : Ints w A lk) (hn : lk.length = n) (hnb : n ≤ 1000000) (hq : 0 ≤ q ∧ q ≤ 1000) :
    Calls Try.prog 44 #[.int .i64 q, .slice A n c] w (RetHunt2 (huntM lk q 0 [] []).1 (huntM lk q 0 [] []).2 w) := by
  obtain ⟨hq1, hq2⟩ := hq
  have c75 : ∀ (a b : Int) W, Ints W A lk → Calls Try.prog 75 #[.slice A n c, .int .i64 a, .int .i64 b] W fun e w' => e = .returned (.bool (wetB lk a b)) ∧ W = w' := fun a b W h => (refwet_any A n c lk a b W h hn hnb).mono fun e w' h => ⟨h.1, h.2.symm⟩
  obtain ⟨W0, hW0⟩ : ∃ W0, W0 = (w.alloc (.cells #[] 48)).alloc (.cells #[] 3) := ⟨_, rfl⟩
  have hh0 : Two W0 w.heap.size (.slice (some ⟨w.heap.size, 0, none⟩) 0 0) (.slice (some ⟨w.heap.size + 1, 0, none⟩) 0 0) 0 [] [] := by
    rw [hW0]
    refine ⟨?_, ?_, ?_⟩
    · have : OwnP (w.alloc (.cells #[] 48)) w.heap.size (.slice (some ⟨w.heap.size, 0, none⟩) 0 0) 0 [] := World.ownsRow_lit w #[] 0 (Nat.le_refl _) (by simp [maxLen]) rfl
      exact this.alloc _
    · have := ownI_lit (w.alloc (.cells #[] 48)) w.heap.size (by simp)
      simpa using this
    · intro k hk hv
      cases hk
      simp [Value.ownBlock] at hv
  have hb0 : Below w.heap.size w W0 := by rw [hW0]; exact ((Below.refl _ _).alloc (Nat.le_refl _) _).alloc (by simp) _
  have HW := Lib.hid hW0
  obtain ⟨R, hR⟩ : ∃ R, huntM lk q 0 [] [] = R := ⟨_, rfl⟩
  rw [hR]
  clear hW0 hn
  go_enter Try.func44, Try.ntmps44
  go_wp2
  rw [← HW.out]
  have hw1 : IntKind.i64.wrap (q - 1) = q - 1 := IntWalk.i64_in _ (by omega)
  go_loopw [6, 7, 8] (fun vt vf i wr => ∃ (f : Int) (ts fd : List Int) (nt : Nat), i = .int .i64 f ∧ 0 ≤ f ∧ f ≤ q ∧ Two wr w.heap.size vt vf nt ts fd ∧ (nt : Int) ≤ 1002 * f ∧ (fd.length : Int) ≤ f ∧ huntM lk q f ts fd = R ∧ Below w.heap.size w wr) (fun _ _ i _ => (q - intOf i).toNat)
  case atStart => exact ⟨0, [], [], 0, rfl, by omega, hq1, hh0, by simp, by simp, hR, hb0⟩
  case round =>
    clear hh0 hb0
    obtain ⟨f, ts, fd, nt, rfl, hf1, hf2, hh, hnt, hfl, hM, hbl⟩ := hrel
    have HM := Lib.hid hM
    clear hM
    have hsz := hbl.size
    by_cases hlt : f < q
    · have hMs := HM.out
      rw [huntM, dif_pos hlt] at hMs
      have HMS := Lib.hid hMs
      clear hMs
      go_wp2_with (at_builtin; refine wpList_pair _ rfl _ _ rfl w.heap.size _ nt ts rfl (hh.ts.alloc _) wr.heap.size f (q - 1) rfl (heap_alloc_new wr _) (by omega) (by simp; omega) (wr.heap.size + 1) (by simp) ?_)
      intro g cap w1 ho1 hgr hat hlt1
      have hh1 := hh.pair _ g cap f (q - 1) hgr hat ho1
      have hb1 := (hbl.alloc (o := .cells #[.int .i64 f, .int .i64 (q - 1)] 48) hsz).grown hgr (by simp; omega) (fun g hg => (hh.ts.lt g hg).1)
      have hI1 := hA.below hb1
      clear hgr hat ho1 hh hbl hsz
      cases hw : wetB lk f (q - 1) with
      | false =>
        have hms := HMS.out
        have c1 := c75 f (q - 1) _ hI1
        rw [hw] at hms c1
        simp only [Bool.false_eq_true, if_false] at hms
        have HM2 := Lib.hid hms
        clear hms
        go_wp2_with fail
        refine c1.mono ?_
        rintro e w' ⟨rfl, rfl⟩
        go_wp2
        refine bodyPost_ret (v := .tuple #[.slice (some ⟨g, 0, none⟩) (nt + 1) cap, u7]) (by simp [results, Try.results44, go_sem]) rfl ?_
        refine ⟨_, _, nt + 1, rfl, ?_, ?_, hb1⟩
        · rw [← HM2.out]; exact hh1.ts.psl
        · rw [← HM2.out]; exact hh1.fd.sli
      | true =>
        have hms := HMS.out
        have c1 := c75 f (q - 1) _ hI1
        rw [hw] at hms c1
        simp only [if_true] at hms
        obtain ⟨S, hS⟩ : ∃ S, srch lk f (q - 1) (ts ++ [f, q - 1]) = S := ⟨_, rfl⟩
        have hSr := srch_ge lk f (q - 1) (ts ++ [f, q - 1]) (by omega)
        rw [hS] at hms hSr
        have HM2 := Lib.hid hms
        have HS := Lib.hid hS
        clear hms hS HMS HM hSr
        go_wp2_with fail
        refine c1.mono ?_
        rintro e w' ⟨rfl, rfl⟩
        go_wp2
        go_loopw [6, 9, 10] (fun vt i j wr => ∃ (a b : Int) (nt2 : Nat) (ts2 : List Int), i = .int .i64 a ∧ j = .int .i64 b ∧ f ≤ a ∧ a ≤ b ∧ b ≤ q - 1 ∧ Two wr w.heap.size vt u7 nt2 ts2 fd ∧ (nt2 : Int) ≤ nt + 1 + ((q - 1 - f) - (b - a)) ∧ srch lk a b ts2 = S ∧ Below w.heap.size w wr) (fun _ i j _ => (intOf j - intOf i).toNat)
        case atStart => exact ⟨f, q - 1, nt + 1, _, rfl, rfl, by omega, by omega, by omega, hh1, by omega, HS.out, hb1⟩
        case round =>
          clear hh1 hb1 hI1
          obtain ⟨a, b, nt2, ts2, rfl, rfl, ha1, ha2, ha3, hh2, hnt2, hs2, hbl2⟩ := hrel
          have HS2 := Lib.hid hs2
          have hsz2 := hbl2.size
          clear hs2
          by_cases hab : a < b
          · have hd1 : 0 ≤ (b - a) / 2 := by omega
            have hd2 : a + (b - a) / 2 < b := by omega
            have hss := HS2.out
            rw [srch, dif_pos hab] at hss
            have hw2 : IntKind.i64.wrap (b - a) = b - a := IntWalk.i64_in _ (by omega)
            have hw2b : IntKind.i64.wrap (b - a + 2) = b - a + 2 := IntWalk.i64_in _ (by omega)
            have htd : (b - a + 2).tdiv 2 = (b - a + 2) / 2 := Int.tdiv_eq_ediv_of_nonneg (by omega)
            have hw3 : IntKind.i64.wrap ((b - a + 2) / 2) = (b - a + 2) / 2 := IntWalk.i64_in _ (by omega)
            have hw4 : IntKind.i64.wrap (a + (b - a + 2) / 2) = a + (b - a + 2) / 2 := IntWalk.i64_in _ (by omega)
            have hmid : a + (b - a + 2) / 2 - 1 = a + (b - a) / 2 := by omega
            generalize hmE : a + (b - a) / 2 = mid at *
            have hw5 : IntKind.i64.wrap mid = mid := IntWalk.i64_in _ (by omega)
            have hw6 : IntKind.i64.wrap (mid + 1) = mid + 1 := IntWalk.i64_in _ (by omega)
            have HSS := Lib.hid hss
            have HME := Lib.hid hmE
            clear hss hmE
            go_wp2_with (at_builtin; refine wpList_pair _ rfl _ _ rfl w.heap.size _ nt2 ts2 rfl (hh2.ts.alloc _) wr.heap.size a mid rfl (heap_alloc_new wr _) (by omega) (by simp; omega) (wr.heap.size + 1) (by simp) ?_)
            intro g2 cap2 w3 ho3 hgr hat hlt3
            have hh3 := hh2.pair _ g2 cap2 a mid hgr hat ho3
            have hb3 := (hbl2.alloc (o := .cells #[.int .i64 a, .int .i64 mid] 48) hsz2).grown hgr (by simp; omega) (fun g hg => (hh2.ts.lt g hg).1)
            have hI3 := hA.below hb3
            clear hgr hat ho3 hh2 hbl2 hsz2
            have c2 := c75 a mid _ hI3
            cases hwb : wetB lk a mid with
            | true =>
              have hss := HSS.out
              rw [hwb] at hss c2
              simp only [if_true] at hss
              have HS3 := Lib.hid hss
              clear hss
              go_wp2_with fail
              refine c2.mono ?_
              rintro e w' ⟨rfl, rfl⟩
              go_wp2
              go_roundw
              case rel => exact ⟨a, mid, nt2 + 1, _, rfl, rfl, ha1, by omega, by omega, hh3, by have := HME.out; omega, HS3.out, hb3⟩
              case measure => simp [intOf]; have := HME.out; omega
            | false =>
              have hss := HSS.out
              rw [hwb] at hss c2
              simp only [Bool.false_eq_true, if_false] at hss
              have HS3 := Lib.hid hss
              clear hss
              go_wp2_with fail
              refine c2.mono ?_
              rintro e w' ⟨rfl, rfl⟩
              go_wp2
              go_roundw
              case rel => exact ⟨mid + 1, b, nt2 + 1, _, rfl, rfl, by omega, by omega, by omega, hh3, by have := HME.out; omega, HS3.out, hb3⟩
              case measure => simp [intOf]; have := HME.out; omega
          · obtain rfl : a = b := by omega
            have hss := HS2.out
            rw [srch, dif_neg (by omega)] at hss
            have hms2 := HM2.out
            rw [← hss] at hms2
            have HM3 := Lib.hid hms2
            have hfdl : fd.length ≤ 1000 := by omega
            have hw6 : IntKind.i64.wrap (a + 1) = a + 1 := IntWalk.i64_in _ (by omega)
            clear hss hms2 HS HS2 HM2
            go_wp2_with (at_builtin; refine wpList_int _ rfl _ _ rfl w.heap.size _ fd.length fd rfl (hh2.fd.alloc _) wr.heap.size a rfl (heap_alloc_new wr _) (by omega) (by simp; omega) (wr.heap.size + 1) (by simp) ?_)
            intro g2 cap2 w3 ho3 hgr hat hlt3
            have hh3 := hh2.put _ g2 cap2 a hgr hat ho3
            have hb3 := (hbl2.alloc (o := .cells #[.int .i64 a] 3) hsz2).grown hgr (by simp; omega) (fun g hg => (hh2.fd.lt g hg).1)
            clear hgr hat ho3 hh2 hbl2 hsz2
            go_wp2
            go_roundw
            case rel => exact ⟨a + 1, ts2, fd ++ [a], nt2, rfl, by omega, by omega, hh3, by omega, by simp; omega, HM3.out, hb3⟩
            case measure => simp [intOf]; omega
    · have hMs := HM.out
      rw [huntM, dif_neg hlt] at hMs
      have HMS := Lib.hid hMs
      clear hMs
      go_wp2
      refine bodyPost_ret (v := .tuple #[u6, u7]) (by simp [results, Try.results44, go_sem]) rfl ?_
      refine ⟨_, _, nt, rfl, ?_, ?_, hbl⟩
      · rw [← HMS.out]; exact hh.ts.psl
      · rw [← HMS.out]; exact hh.fd.sli
end Go.Proofs.Ytneliejncfncdaa

namespace Go.Proofs.Ytneliejncfncdaa
open Go.RowKit

theorem PSl.below {w w' : World} {v : Value} {n : Nat} {ts : List Int} (h : PSl w v n ts) (hb : Below w.heap.size w w') : PSl w' v n ts := by
  obtain ⟨A, c, hv, hA, hl, hm⟩ := h
  exact ⟨A, c, hv, hA.below hb, hl, hm⟩
theorem pairs_get {w : World} {A : Option Addr} {n : Nat} {ts : List Int} (h : At w A (ts.map (Value.int .i64))) (hl : ts.length = n * 2) {i : Nat} (hi : i < n) :
    ∃ b off, A = some ⟨b, off, none⟩ ∧ b < w.heap.size ∧ w.cell? ⟨b, off + i * 2, none⟩ = some (.int .i64 (ts.getD (i * 2) 0)) ∧ w.cell? ⟨b, off + i * 2 + 1, none⟩ = some (.int .i64 (ts.getD (i * 2 + 1) 0)) := by
  rcases h with h | ⟨b, off, hA, hlt, hc⟩
  · have : ts = [] := by simpa using h
    subst this
    simp at hl
    omega
  · refine ⟨b, off, hA, hlt, hc (i * 2) _ ?_, ?_⟩
    · simp [List.getD, show i * 2 < ts.length by omega]
    · have := hc (i * 2 + 1) (.int .i64 (ts.getD (i * 2 + 1) 0)) (by simp [List.getD, show i * 2 + 1 < ts.length by omega])
      rwa [← Nat.add_assoc] at this

set_option maxRecDepth 100000 in
theorem pair_eq (a b : Int) (W : World) : (Go.binOp .neq 48 (.agg #[.int .i64 a, .int .i64 b]) (.agg #[.int .i64 a, .int .i64 b])).run Try.prog W = .ok (.bool false) W := by
  have h1 : ∀ (x : Int) (W : World), (Op.equalIn 9999 3 (.int .i64 x) (.int .i64 x)).run Try.prog W = .ok true W := fun x W => by
    rw [show (9999 : Nat) = 9998 + 1 from rfl, run_equalIn_int W 9998 3 .i64 .i64 x x Try.underlying3]
    simp
  rw [run_neq_struct]
  obtain ⟨i0, hi0, _⟩ := info_parts Try.info3
  rw [show (10000 : Nat) = 9999 + 1 from rfl, run_equalIn_array W 9999 _ _ Try.underlying48 hi0]
  simp [Op.eqItems, part, Try.cells3, h1, List.range, List.range.loop]

theorem huntM_len (lk : List Int) (c f : Int) (ts fd : List Int) : f ≤ c → ((huntM lk c f ts fd).2.length : Int) ≤ fd.length + (c - f) := by
  intro hf
  rw [huntM]
  split
  · rename_i h
    split
    · have hs := srch_ge lk f (c - 1) (ts ++ [f, c - 1]) (by omega)
      have := huntM_len lk c ((srch lk f (c - 1) (ts ++ [f, c - 1])).1 + 1) (srch lk f (c - 1) (ts ++ [f, c - 1])).2 (fd ++ [(srch lk f (c - 1) (ts ++ [f, c - 1])).1]) (by omega)
      simp at this ⊢
      omega
    · simp; omega
  · simp; omega
termination_by (c - f).toNat
decreasing_by
  have := srch_ge lk f (c - 1) (ts ++ [f, c - 1]) (by omega)
  omega

section
variable (q : Int) (A : Option Addr) (c m : Nat) (p l : List Int) (w : World)

set_option maxRecDepth 100000 in
set_option maxHeartbeats 1600000 in
theorem hunts_bad (h17 : Calls Try.prog 17 #[.slice A m c, .int .i64 40] w (RetInts l w)) (hl : l.length ≤ 40) (h : q < 0 ∨ 1000 < q ∨ rsB q (-1) l = false) :
    Calls Try.prog 12 #[.int .i64 q, .slice A m c] w (Said true w) := by
  have c43 : ∀ W A c, Ints W A l → Calls Try.prog 43 #[.int .i64 q, .slice A l.length c] W (RetHunt [] [] 1 W) := fun W A c hI => Hunt_bad q A l.length c l W hI rfl (by omega) h
  by_cases h1 : q < 0
  · clear h
    go_enter Try.func12, Try.ntmps12
    go_wp2_with fail
    refine h17.mono ?_
    rintro e w1 ⟨v1, rfl, hs1, hb1⟩
    obtain ⟨A1, c1, rfl, hI⟩ := hs1.lieA rfl
    go_wp2_with fail
    refine (c43 _ _ _ hI).mono ?_
    rintro e w2 ⟨vt, vf, nt, rfl, ⟨A2, c2, rfl, _, hnt, _⟩, hs2, hb2⟩
    obtain ⟨A3, c3, rfl, _⟩ := hs2.lieA (n := 0) rfl
    obtain rfl : nt = 0 := by simp at hnt; omega
    have hbf := hb1.trans (hb2.mono hb1.size)
    go_wp2_with fail
    refine (lives_any _).mono ?_
    rintro e w3 ⟨rfl, hb3⟩
    go_wp2
    go_ret
    exact ⟨rfl, hbf.trans (hb3.mono hbf.size)⟩
  · by_cases h2 : 1000 < q
    · clear h
      have d1 : decide (q < 0) = false := decide_eq_false h1
      have d2 : decide (1000 < q) = true := decide_eq_true h2
      go_enter Try.func12, Try.ntmps12
      go_wp2_with fail
      refine h17.mono ?_
      rintro e w1 ⟨v1, rfl, hs1, hb1⟩
      obtain ⟨A1, c1, rfl, hI⟩ := hs1.lieA rfl
      go_wp2_with fail
      refine (c43 _ _ _ hI).mono ?_
      rintro e w2 ⟨vt, vf, nt, rfl, ⟨A2, c2, rfl, _, hnt, _⟩, hs2, hb2⟩
      obtain ⟨A3, c3, rfl, _⟩ := hs2.lieA (n := 0) rfl
      obtain rfl : nt = 0 := by simp at hnt; omega
      have hbf := hb1.trans (hb2.mono hb1.size)
      go_wp2_with fail
      refine (lives_any _).mono ?_
      rintro e w3 ⟨rfl, hb3⟩
      go_wp2
      go_ret
      exact ⟨rfl, hbf.trans (hb3.mono hbf.size)⟩
    · have hr : rsB q (-1) l = false := by
        rcases h with h | h | h
        · exact absurd h h1
        · exact absurd h h2
        · exact h
      have d1 : decide (q < 0) = false := decide_eq_false h1
      have d2 : decide (1000 < q) = false := decide_eq_false h2
      have c28 : ∀ W A c, Ints W A l → Calls Try.prog 28 #[.slice A l.length c, .int .i64 q] W fun e w' => e = .returned (.bool false) ∧ ∃ z, w' = W.drewN z := fun W A c hJ => by
        have := refRising_any A c l.length l q W hJ rfl (by omega) ⟨by omega, by omega⟩
        rwa [hr] at this
      clear h hr
      go_enter Try.func12, Try.ntmps12
      go_wp2_with fail
      refine h17.mono ?_
      rintro e w1 ⟨v1, rfl, hs1, hb1⟩
      obtain ⟨A1, c1, rfl, hI⟩ := hs1.lieA rfl
      go_wp2_with fail
      refine (c43 _ _ _ hI).mono ?_
      rintro e w2 ⟨vt, vf, nt, rfl, ⟨A2, c2, rfl, _, hnt, _⟩, hs2, hb2⟩
      obtain ⟨A3, c3, rfl, _⟩ := hs2.lieA (n := 0) rfl
      obtain rfl : nt = 0 := by simp at hnt; omega
      have hbf := hb1.trans (hb2.mono hb1.size)
      have hI2 := Ints.below hI hb2
      go_wp2_with fail
      refine (c28 _ _ _ hI2).mono ?_
      rintro e w3 ⟨rfl, z, rfl⟩
      go_wp2_with fail
      refine (lives_any _).mono ?_
      rintro e w4 ⟨rfl, hb4⟩
      go_wp2
      go_ret
      exact ⟨rfl, (hbf.drewN z).trans (hb4.mono (by simpa using hbf.size))⟩

set_option maxRecDepth 100000 in
set_option maxHeartbeats 1600000 in
theorem hunts_good (h17 : Calls Try.prog 17 #[.slice A m c, .int .i64 40] w (RetInts l w)) (hl : l.length ≤ 40) (hq1 : 0 ≤ q) (hq2 : q ≤ 1000) (hr : rsB q (-1) l = true) :
    Calls Try.prog 12 #[.int .i64 q, .slice A m c] w (Said true w) := by
  have d1 : decide (q < 0) = false := decide_eq_false (by omega)
  have d2 : decide (1000 < q) = false := decide_eq_false (by omega)
  have c28 : ∀ W A c, Ints W A l → Calls Try.prog 28 #[.slice A l.length c, .int .i64 q] W fun e w' => e = .returned (.bool true) ∧ ∃ z, w' = W.drewN z := fun W A c hJ => by
    have := refRising_any A c l.length l q W hJ rfl (by omega) ⟨by omega, by omega⟩
    rwa [hr] at this
  have c43 : ∀ W A c, Ints W A l → Calls Try.prog 43 #[.int .i64 q, .slice A l.length c] W (RetHunt (huntM l q 0 [] []).1 (huntM l q 0 [] []).2 0 W) := fun W A c hI => Hunt_good q A l.length c l W hI rfl (by omega) ⟨hq1, hq2⟩ hr
  have c44 : ∀ W A c, Ints W A l → Calls Try.prog 44 #[.int .i64 q, .slice A l.length c] W (RetHunt2 (huntM l q 0 [] []).1 (huntM l q 0 [] []).2 W) := fun W A c hI => refHunt_any q A l.length c l W hI rfl (by omega) ⟨hq1, hq2⟩
  have hfb := huntM_len l q 0 [] [] hq1
  clear hr
  generalize huntM l q 0 [] [] = R at *
  obtain ⟨ts, fd⟩ := R
  simp only [List.length_nil] at c43 c44 hfb
  have c23 : ∀ (W : World) A B c d, Ints W A fd → Ints W B fd → Calls Try.prog 23 #[.slice A fd.length c, .slice B fd.length d] W fun e w' => e = .returned (.bool true) ∧ ∃ z, w' = W.drewN z := fun W A B c d h1 h2 => by
    have := lawsame_any A B fd.length fd.length c d _ _ W h1 h2 rfl rfl (by omega) (by omega)
    simpa using this
  go_enter Try.func12, Try.ntmps12
  go_wp2_with fail
  refine h17.mono ?_
  rintro e w1 ⟨v1, rfl, hs1, hb1⟩
  obtain ⟨A1, c1, rfl, hI⟩ := hs1.lieA rfl
  go_wp2_with fail
  refine (c43 _ _ _ hI).mono ?_
  rintro e w2 ⟨vt, vf, nt, rfl, hp2, hs2, hb2⟩
  obtain ⟨A3, c3, rfl, hF2⟩ := hs2.lieA rfl
  have hB2 := hb1.trans (hb2.mono hb1.size)
  have hI2 := Ints.below hI hb2
  obtain ⟨A2, c2, rfl, _⟩ := id hp2
  go_wp2_with fail
  refine (c28 _ _ _ hI2).mono ?_
  rintro e w3 ⟨rfl, z, rfl⟩
  have hB3 := hB2.drewN z
  have hF3 := Ints.drewN hF2 z
  have hp3 : PSl (w2.drewN z) (.slice A2 nt c2) nt ts := hp2
  go_wp2_with fail
  refine (c44 _ _ _ (Ints.drewN hI2 z)).mono ?_
  rintro e w4 ⟨vt4, vf4, nt4, rfl, hp4, hs4, hb4⟩
  obtain ⟨A5, c5, rfl, hF4⟩ := hs4.lieA rfl
  have hB4 := hB3.trans (hb4.mono hB3.size)
  have hp34 := hp3.below hb4
  have hF34 := hF3.below hb4
  obtain ⟨A6, c6, rfl, hA6, hl6, hm6⟩ := hp4
  obtain ⟨A7, c7, hv7, hA7, hl7, _⟩ := hp34
  cases hv7
  obtain rfl : nt4 = nt := by omega
  clear hb1 hb2 hb4 hB2 hB3 hp2 hp3 hs1 hs2 hs4
  go_wp2_with fail
  refine (c23 _ _ _ _ _ hF34 hF4).mono ?_
  rintro e w5 ⟨rfl, z5, rfl⟩
  have hB5 := hB4.drewN z5
  go_wp2_with fail
  refine (lives_any _).mono ?_
  rintro e w6 ⟨rfl, hb6⟩
  have hB6 := hB5.trans (hb6.mono hB5.size)
  have hA6' : At w6 A6 (ts.map (Value.int .i64)) := At.below (w := w4.drewN z5) hA6 hb6
  have hA7' : At w6 A2 (ts.map (Value.int .i64)) := At.below (w := w4.drewN z5) hA7 hb6
  have HL := Lib.hid hl6
  unfold maxLen at hm6
  clear hA6 hA7 hl6 hl7 hb6 hB4 hB5 hF4 hF34 c23 c43 c44 c28
  go_wp2
  go_loopw [11] (fun i wr => ∃ k : Nat, k ≤ nt4 ∧ i = .int .i64 k ∧ ∃ nd, wr = w6.drewN nd) (fun i _ => nt4 - (intOf i).toNat)
  case atStart => exact ⟨0, by omega, rfl, 0, rfl⟩
  case round =>
    obtain ⟨k, hk, rfl, nd, rfl⟩ := hrel
    by_cases hlt : k < nt4
    · obtain ⟨b1, o1, rfl, hb1, e1, e2⟩ := pairs_get hA6' HL.out hlt
      obtain ⟨b2, o2, rfl, hb2, e3, e4⟩ := pairs_get hA7' HL.out hlt
      generalize ts.getD (k * 2) 0 = x at *
      generalize ts.getD (k * 2 + 1) 0 = y at *
      have hne := pair_eq x y
      go_wp2
      go_quiet (fail)
      go_wp2
      go_roundw
      case rel => exact ⟨k + 1, by omega, by go_num, _, rfl⟩
      case measure => simp [intOf]; omega
    · obtain rfl : k = nt4 := by omega
      go_wp2
      go_ret
      exact ⟨rfl, hB6.drewN _⟩

theorem hunts_any (_ : I64 q) (hA : Ints w A p) (hn : p.length = m) (hnc : m ≤ c) (hnil : A = none → c = 0) (_ : ∀ x ∈ p, I64 x) :
    Calls Try.prog 12 #[.int .i64 q, .slice A m c] w (Said true w) := by
  have h17 := cut_any A m c 40 40 p w hA hn hnc rfl (by omega) hnil
  have hl : (p.take 40).length ≤ 40 := by simp; omega
  generalize p.take 40 = l at *
  by_cases h1 : q < 0
  · exact hunts_bad q A c m l w h17 hl (.inl h1)
  · by_cases h2 : 1000 < q
    · exact hunts_bad q A c m l w h17 hl (.inr (.inl h2))
    · cases hr : rsB q (-1) l with
      | false => exact hunts_bad q A c m l w h17 hl (.inr (.inr hr))
      | true => exact hunts_good q A c m l w h17 hl (by omega) (by omega) hr
end
end Go.Proofs.Ytneliejncfncdaa
