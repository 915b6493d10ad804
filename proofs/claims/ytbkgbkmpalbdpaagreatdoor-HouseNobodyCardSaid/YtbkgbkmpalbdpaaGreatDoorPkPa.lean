/- Texts Pa Pb Pc Pd Pe Pf Ph in one. -/
import Derived.Test.YtbkgbkmpalbdpaaGreatDoorProg
import Derived.Test.YtbkgbkmpalbdpaaGreatDoorW
import Derived.Test.YtbkgbkmpalbdpaaGreatDoorPkLex
import Derived.Lib.Hide
import Derived.Deep.DeepCutAuto
import Derived.Deep.LoopGhost
import Derived.Deep.RegionHeld3
import Derived.Deep.AppendLies
import Derived.Deep.DrawnRows
import Derived.OwnWalk
import Derived.MapKept
import Derived.Carry
import Derived.Maps.Own
namespace Go.Proofs.YtbkgbkmpalbdpaaGreatDoor
open Go.RowKit Go.Lib

/-- A function that only reads. -/
def RetV (v : Value) (w : World) (e : Ending) (w' : World) : Prop := e = .returned v ∧ w = w'
/-- A function that only makes memory. -/
def RetW (v : Value) (w : World) (e : Ending) (w' : World) : Prop := e = .returned v ∧ Below w.heap.size w w'
def str (x : List UInt8) : Value := .string ⟨x.toArray⟩
/-- From address A on lie the strings l. -/
def StrA (w : World) (A : Option Addr) (l : List (List UInt8)) : Prop := At w A (l.map str)
/-- The slice value v holds the strings l. -/
def StrV (w : World) (v : Value) (l : List (List UInt8)) : Prop := ∃ A c, v = .slice A l.length c ∧ l.length ≤ c ∧ c ≤ maxLen ∧ (A = none → c = 0) ∧ StrA w A l
theorem StrA.below {w w' : World} {A : Option Addr} {l : List (List UInt8)} (h : StrA w A l) (hb : Below w.heap.size w w') : StrA w' A l := At.below h hb
theorem StrV.below {w w' : World} {v : Value} {l : List (List UInt8)} (h : StrV w v l) (hb : Below w.heap.size w w') : StrV w' v l := by
  obtain ⟨A, c, h1, h2, h3, h4, h5⟩ := h
  exact ⟨A, c, h1, h2, h3, h4, h5.below hb⟩
theorem StrA.get {w : World} {A : Option Addr} {l : List (List UInt8)} (h : StrA w A l) {k : Nat} (hk : k < l.length) :
    ∃ b off, A = some ⟨b, off, none⟩ ∧ b < w.heap.size ∧ w.cell? ⟨b, off + k, none⟩ = some (.string ⟨l[k].toArray⟩) := by
  rcases h with h | ⟨b, off, hA, hb, hc⟩
  · have : l = [] := by simpa using h
    subst this
    simp at hk
  · exact ⟨b, off, hA, hb, hc k _ (by simp [hk, str])⟩
/-- append of one element of any type. -/
theorem wpList_app {st e : TypeId} {z : Value} {size bytes : Nat} (hu : Tryz.prog.underlying st = some (.slice e)) (hinfo : (Tryz.prog.info? e).map (fun i => (i.zero, i.size, i.bytes)) = some (some z, size, bytes)) (hzs : z.cells.size = size) (hsz : 0 < size) (hbt : bytes ≤ 64)
    {ops : Array Oper} {rest : List Oper} {o : Oper} {a : Act} {Q : Exit → Act → World → Prop} (w : World) (hgd : o.guard = none) (s x : Operand)
    (ho : o.op = .call { callee := .builtin .append, args := #[s, x], argTypes := #[st, st] })
    (base : Nat) (v : Value) (n : Nat) (xs : List Value) (hs : a.eval s = v) (hown : w.ownsRow base e size v n xs)
    (H0 : Nat) (cs : Array Value) (hx : a.eval x = .slice (some ⟨H0, 0, none⟩) 1 1) (hblk : w.heap[H0]? = some (.cells cs e (0, 0))) (hcs : cs.size = size) (h1 : ∀ u ∈ cs.toList, u.oneCell' = true)
    (hn : n ≤ 1000000) (hbase : base ≤ w.heap.size) (H : Nat) (hH : w.heap.size = H)
    (h : ∀ g cap w', w'.ownsRow base e size (.slice (some ⟨g, 0, none⟩) (n + 1) cap) (n + 1) (xs ++ cs.toList) → w.grownBy w' v.ownBlock → (v.ownBlock = some g ∨ g = H) → g < w'.heap.size → wpList Tryz.prog ops Q rest (a.put o.dst (.slice (some ⟨g, 0, none⟩) (n + 1) cap)) w') : wpList Tryz.prog ops Q (o :: rest) a w := by
  obtain ⟨i0, hi0, hz0, hz1, hz2⟩ := info_parts hinfo
  refine wpList_append_lies _ hgd s x st ho base e i0 z size bytes hu hi0 hz0 hz1 hz2 hzs hsz v n _ hs hown ⟨H0, 0, none⟩ 1 1 cs.toList hx (by rw [Nat.one_mul]; simpa using hcs) (World.news_of_block (cs := cs) hblk) h1
    (by omega) (by unfold maxLen; omega) (by have : (n + 1) * bytes ≤ 1000001 * 64 := Nat.mul_le_mul (by omega) hbt; omega) hbase H hH ?_
  intro g cap w1 hown1
  exact h g cap w1 hown1
theorem info_str : (Tryz.prog.info? 9).map (fun i => (i.zero, i.size, i.bytes)) = some (some (.string ⟨#[]⟩), 1, 16) := by kernel_rfl
/-- Block B holds these cells. -/
def Blk (w : World) (B : Nat) (cs : Array Value) (t : TypeId) : Prop := w.heap[B]? = some (.cells cs t (0, 0))
section
variable {w w' : World} {B : Nat} {cs : Array Value} {t : TypeId}
theorem Blk.cell (h : Blk w B cs t) (i : Nat) : w.cell? ⟨B, i, none⟩ = cs[i]? := by
  have h0 : w.heap[B]? = _ := h
  simp only [World.cell?, h0, Option.isSome_none, Bool.false_eq_true, if_false]
theorem Blk.free (h : Blk w B cs t) (i : Nat) : w.frozen? ⟨B, i, none⟩ = false := by
  have h0 : w.heap[B]? = _ := h
  simp only [World.frozen?, h0]
  simp
theorem Blk.lt (h : Blk w B cs t) : B < w.heap.size := (Array.getElem?_eq_some_iff.1 h).1
theorem Blk.below (h : Blk w B cs t) (hb : Below w.heap.size w w') : Blk w' B cs t := (hb.block B h.lt).trans h
theorem Blk.new (w : World) (cs : Array Value) (t : TypeId) : Blk (w.alloc (.cells cs t)) w.heap.size cs t := heap_alloc_new w _
theorem Blk.set (h : Blk w B cs t) (i : Nat) (u : Value) : Blk (w.setCell ⟨B, i, none⟩ u) B (cs.setIfInBounds i u) t := by
  unfold Blk World.setCell
  simp only [Array.getElem?_modify, if_true, show w.heap[B]? = _ from h]
  rfl
theorem Blk.setOther (h : Blk w B cs t) (p : Addr) (u : Value) (hp : B ≠ p.block) : Blk (w.setCell p u) B cs t := (Below.heap_setCell w p u B hp).trans h
theorem Blk.grown {row : Option Nat} (h : Blk w B cs t) (hg : w.grownBy w' row) (hne : row ≠ some B) : Blk w' B cs t := (hg.block B h.lt (Ne.symm hne)).trans h
theorem Blk.drew (h : Blk w B cs t) : Blk w.drew B cs t := h
end
/-- These values lie from here on. -/
def LiesV (w : World) (b off : Nat) (ys : List Value) : Prop := b < w.heap.size ∧ ∀ j v, ys[j]? = some v → w.cell? ⟨b, off + j, none⟩ = some v
theorem LiesV.below {w w' : World} {b off : Nat} {ys : List Value} (h : LiesV w b off ys) (hb : Below w.heap.size w w') : LiesV w' b off ys := ⟨Nat.lt_of_lt_of_le h.1 hb.size, fun j v hj => (hb.cell (p := ⟨b, off + j, none⟩) h.1).trans (h.2 j v hj)⟩
theorem LiesV.grown {w w' : World} {b off : Nat} {ys : List Value} {row : Option Nat} (h : LiesV w b off ys) (hg : w.grownBy w' row) (hn : row ≠ some b) : LiesV w' b off ys := ⟨Nat.lt_of_lt_of_le h.1 hg.size, fun j v hj => (World.cell?_of_block (hg.block b h.1 (Ne.symm hn))).trans (h.2 j v hj)⟩
theorem LiesV.take {w : World} {b off : Nat} {ys : List Value} (h : LiesV w b off ys) (k : Nat) : LiesV w b off (ys.take k) := ⟨h.1, fun j v hj => h.2 j v (by
  rw [List.getElem?_take] at hj
  split at hj
  · exact hj
  · cases hj)⟩
theorem LiesV.drop {w : World} {b off : Nat} {ys : List Value} (h : LiesV w b off ys) (k : Nat) : LiesV w b (off + k) (ys.drop k) := ⟨h.1, fun j v hj => by
  rw [List.getElem?_drop] at hj
  rw [show off + k + j = off + (k + j) by omega]
  exact h.2 _ _ hj⟩
theorem LiesV.ofRow {w : World} {base g n cap : Nat} {e : TypeId} {xs : List Value} (h : w.ownsRow base e 1 (.slice (some ⟨g, 0, none⟩) n cap) n xs) : LiesV w g 0 xs := ⟨(World.ownsRow.lt h g rfl).2, fun j v hj => by
  have := World.ownsRow.cells h (g := g) rfl j v hj
  rw [Addr.add_lit] at this
  exact this⟩
theorem row_caps {w : World} {base g n cap : Nat} {e : TypeId} {xs : List Value} (h : w.ownsRow base e 1 (.slice (some ⟨g, 0, none⟩) n cap) n xs) : n ≤ cap ∧ cap ≤ maxLen := by
  rcases h.2 with ⟨e, _⟩ | ⟨g', cap', cur, e, _, _, h4, h5, _⟩
  · cases e
  · injection e with _ _ e3
    subst e3
    exact ⟨h4, h5⟩
/-- append of many values of one cell each to a row of the call's own. -/
theorem wpList_appM {st e : TypeId} {z : Value} {bytes : Nat} (hu : Tryz.prog.underlying st = some (.slice e)) (hinfo : (Tryz.prog.info? e).map (fun i => (i.zero, i.size, i.bytes)) = some (some z, 1, bytes)) (hzs : z.cells.size = 1) (hbt : bytes ≤ 64)
    {ops : Array Oper} {rest : List Oper} {o : Oper} {a : Act} {Q : Exit → Act → World → Prop} (w : World) (hgd : o.guard = none) (s x : Operand)
    (ho : o.op = .call { callee := .builtin .append, args := #[s, x], argTypes := #[st, st] })
    (base g n cap : Nat) (xs : List Value) (hs : a.eval s = .slice (some ⟨g, 0, none⟩) n cap) (hown : w.ownsRow base e 1 (.slice (some ⟨g, 0, none⟩) n cap) n xs)
    (b off m c : Nat) (ys : List Value) (hx : a.eval x = .slice (some ⟨b, off, none⟩) m c) (hy : LiesV w b off ys) (hym : ys.length = m) (h1 : ∀ u ∈ ys, u.oneCell' = true)
    (hn : n + m ≤ 1000000) (hbase : base ≤ w.heap.size) (H : Nat) (hH : w.heap.size = H)
    (h : ∀ g' cap' w', w'.ownsRow base e 1 (.slice (some ⟨g', 0, none⟩) (n + m) cap') (n + m) (xs ++ ys) → w.grownBy w' (some g) → (g = g' ∨ g' = H) → g' < w'.heap.size → wpList Tryz.prog ops Q rest (a.put o.dst (.slice (some ⟨g', 0, none⟩) (n + m) cap')) w') : wpList Tryz.prog ops Q (o :: rest) a w := by
  obtain ⟨i0, hi0, hz0, hz1, hz2⟩ := info_parts hinfo
  have hlt : g < w.heap.size := (World.ownsRow.lt hown g rfl).2
  have hgr : w.grownBy w (some g) := ⟨rfl, rfl, rfl, Nat.le_refl _, fun _ _ _ => rfl⟩
  have hbt2 : (n + m) * bytes ≤ (n + m) * 64 := Nat.mul_le_mul_left _ hbt
  rcases Nat.eq_zero_or_pos m with h0 | h0
  · subst h0
    obtain rfl : ys = [] := List.eq_nil_of_length_eq_zero hym
    have hK := h g cap w (by simpa using hown) hgr (.inl rfl) hlt
    rw [Nat.add_zero] at hK
    have hl : xs.length = n := by have := hown.1; simpa using this
    have hnc := (row_caps hown).1
    refine wpList_append_arg w hgd s x st ho e i0 z 1 bytes hu hi0 hz0 hz1 hz2 hzs (by omega) g 0 n cap xs hs (by omega) (fun j u hj => ?_) ⟨b, off, none⟩ 0 c [] hx rfl (by intro j u hj; simp at hj) (by intro u hu; cases hu)
      (fun _ j hj => by simp at hj) (by unfold maxLen; omega) (by omega) (fun _ => ?_) (fun hr => by omega)
    · have := World.ownsRow.cells hown (g := g) rfl j u hj
      rw [Addr.add_lit] at this
      exact this
    · have e1 : w.setCells g (0 + n * 1) ([] : List Value) = w := rfl
      rw [e1]
      exact hK
  · exact wpList_append_lies _ hgd s x st ho base e i0 z 1 bytes hu hi0 hz0 hz1 hz2 hzs (by omega) _ n xs hs hown ⟨b, off, none⟩ m c ys hx (by simpa using hym)
      (fun j u hj => by rw [Addr.add_lit]; exact hy.2 j u hj) h1 h0 (by unfold maxLen; omega) (by omega) hbase H hH
      (fun g' cap' w' h1 h2 h3 h4 => h g' cap' w' h1 h2 (by
          rcases h3 with h3 | h3
          · left; simp [Value.ownBlock] at h3; exact h3
          · exact .inr h3) h4)
/-- make of elements of one cell. -/
theorem wpList_make1 {st e : TypeId} {z : Value} {bytes : Nat} (hu : Tryz.prog.underlying st = some (.slice e)) (hinfo : (Tryz.prog.info? e).map (fun i => (i.zero, i.size, i.bytes)) = some (some z, 1, bytes)) (hzc : z.cells = #[z]) (hbt : bytes ≤ 64)
    {ops : Array Oper} {rest : List Oper} {o : Oper} {a : Act} {Q : Exit → Act → World → Prop} (w : World) (hg : o.guard = none) (l c : Operand) (hop : o.op = Op.makeSlice st l c)
    (base : Nat) (L C : Int) (n : Nat) (hl : a.eval l = .int .i64 L) (hc : a.eval c = .int .i64 C) (hL : L = (n : Int)) (hC : C = (n : Int)) (hn : n ≤ 1000000) (hb : base ≤ w.heap.size) (zs : List Value) (hzs : List.replicate n z = zs)
    (hK : ∀ w', w'.ownsRow base e 1 (.slice (some ⟨w.heap.size, 0, none⟩) n n) n zs → w.grownBy w' none → wpList Tryz.prog ops Q rest (a.put o.dst (.slice (some ⟨w.heap.size, 0, none⟩) n n)) w') :
    wpList Tryz.prog ops Q (o :: rest) a w := by
  obtain ⟨i0, hi0, hz0, hz1, hz2⟩ := info_parts hinfo
  refine wpList_make_full _ hg l c st hop base e i0 z 1 hu hi0 hz0 hz1 .i64 .i64 L C n hl hc hL hC (by rw [hz2]; have : bytes * n ≤ 64 * 1000000 := Nat.mul_le_mul hbt hn; omega) (by unfold maxLen; omega) hb ?_
  intro w' h1
  refine hK w' ?_
  have ee : (madeCells z.cells (n * 1)).toList = List.replicate n z := by
    rw [hzc, toList_madeCells_one]; simp
  rw [← hzs, ← ee]
  exact h1
theorem row_fr {w w' : World} {base : Nat} {e : TypeId} {z n : Nat} {v : Value} {xs : List Value} {S : List Nat} (h : w.ownsRow base e z v n xs) (hf : Fr S w w') (hS : ∀ k, v.ownBlock = some k → k ∉ S) : w'.ownsRow base e z v n xs := by
  obtain ⟨h1, h2⟩ := h
  refine ⟨h1, ?_⟩
  rcases h2 with h2 | ⟨g, cap, cur, a1, a2, a3, a4⟩
  · exact .inl h2
  · exact .inr ⟨g, cap, cur, a1, a2, (hf.block g (Array.getElem?_eq_some_iff.1 a3).1 (hS g (by rw [a1]; rfl))).trans a3, a4⟩
theorem _root_.Go.World.ownsRow.mono {w : World} {base B : Nat} {e : TypeId} {z n : Nat} {v : Value} {xs : List Value} (h : w.ownsRow base e z v n xs) (hB : B ≤ base) : w.ownsRow B e z v n xs := by
  refine ⟨h.1, ?_⟩
  rcases h.2 with h' | ⟨g, cap, cur, h1, h2, h3⟩
  · exact .inl h'
  · exact .inr ⟨g, cap, cur, h1, by omega, h3⟩
theorem Fr.next {S T : List Nat} {a b c : World} (h : Fr T a b) (k : Fr S b c) (hs : ∀ x ∈ S, x ∈ T ∨ a.heap.size ≤ x) : Fr T a c :=
  ⟨k.os.trans h.os, k.tape.trans h.tape, k.output.trans h.output, Nat.le_trans h.size k.size, fun q hq hn => (k.block q (Nat.lt_of_lt_of_le hq h.size) (fun hx => by
    rcases hs q hx with r | r
    · exact hn r
    · omega)).trans (h.block q hq hn)⟩
theorem rows_one (v : Value) (h : v.oneCell' = true) : ∀ u ∈ (#[v] : Array Value).toList, u.oneCell' = true := by
  intro u hu
  simp at hu
  rw [hu]; exact h
theorem Blk.belowLt {w w' : World} {B C : Nat} {cs : Array Value} {t : TypeId} (h : Blk w B cs t) (hb : Below C w w') (hC : B < C) : Blk w' B cs t := (hb.block B hC).trans h
theorem Blk.fr {w w' : World} {B : Nat} {cs : Array Value} {t : TypeId} {S : List Nat} (h : Blk w B cs t) (hf : Fr S w w') (hB : B ∉ S) : Blk w' B cs t := (hf.block B h.lt hB).trans h
/-- A row and a block of another type lie apart. -/
theorem own_ne {w : World} {base g n cap B z : Nat} {e t : TypeId} {xs : List Value} {cs : Array Value} (h : w.ownsRow base e z (.slice (some ⟨g, 0, none⟩) n cap) n xs) (hB : Blk w B cs t) (ht : e ≠ t) : g ≠ B := by
  rcases h.2 with ⟨q, _⟩ | ⟨g', cap', cur, q, _, q2, _⟩
  · cases q
  · injection q with q1 _ _
    injection q1 with q1
    injection q1 with q1
    subst q1
    intro hb
    subst hb
    have h1 : w.heap[g]? = _ := hB
    rw [h1] at q2
    injection q2 with q2
    injection q2 with _ q3 _
    exact ht q3.symm
/-- What a slice expression with a lower bound gives. -/
theorem cut_from {w : World} {b off c : Nat} {l : List Value} (h : LiesV w b off l) (k : Nat) (hl : l.length ≤ c) : ∃ ro, (if c = k then (some ⟨b, off, none⟩ : Option Addr) else some ⟨b, off + k, none⟩) = some ⟨b, ro, none⟩ ∧ LiesV w b ro (l.drop k) := by
  by_cases e : c = k
  · refine ⟨off, by rw [if_pos e], h.1, fun j v hj => ?_⟩
    rw [List.drop_eq_nil_iff.2 (by omega)] at hj
    simp at hj
  · exact ⟨off + k, by rw [if_neg e], h.drop k⟩
theorem cell_new (w : World) (cs : Array Value) (t : TypeId) (o : Nat) : (w.alloc (.cells cs t)).cell? ⟨w.heap.size, o, none⟩ = cs[o]? := (Blk.new w cs t).cell o
end Go.Proofs.YtbkgbkmpalbdpaaGreatDoor

namespace Go.Proofs.YtbkgbkmpalbdpaaGreatDoor
open Go.RowKit Go.Lib

/-- Block D is a disk: its blocks lie in block R, what is loose in map M. -/
def DiskB (w : World) (D R M n : Nat) (dn : Bool) (left : Nat) : Prop := Blk w D #[.slice (some ⟨R, 0, none⟩) n n, .map (some M), .bool dn, .int .i64 (left : Int)] 102
section
variable {w : World} {D R M n : Nat} {dn : Bool} {left : Nat}
theorem DiskB.c0 (h : DiskB w D R M n dn left) : w.cell? ⟨D, 0, none⟩ = some (.slice (some ⟨R, 0, none⟩) n n) := Blk.cell h 0
theorem DiskB.c1 (h : DiskB w D R M n dn left) : w.cell? ⟨D, 1, none⟩ = some (.map (some M)) := Blk.cell h 1
theorem DiskB.c2 (h : DiskB w D R M n dn left) : w.cell? ⟨D, 2, none⟩ = some (.bool dn) := Blk.cell h 2
theorem DiskB.c3 (h : DiskB w D R M n dn left) : w.cell? ⟨D, 3, none⟩ = some (.int .i64 (left : Int)) := Blk.cell h 3
set_option maxRecDepth 100000 in
theorem map_there (M : Nat) (w : World) : (binOp .neq 100 (.map (some M)) (.map none)).run Tryz.prog w = .ok (.bool true) w := by kernel_rfl
set_option maxRecDepth 100000 in
theorem made_yes (h : DiskB w D R M n dn left) : Calls Tryz.prog 31 #[.pointer (some ⟨D, 0, none⟩)] w (RetV (.bool true) w) := by
  have c1 := h.c1
  have hm := map_there M
  clear h
  go_enter Tryz.func31, Tryz.ntmps31
  go_wp2
  go_ret
  exact ⟨rfl, rfl⟩
set_option maxRecDepth 100000 in
theorem ready_ok (h : DiskB w D R M n false left) : Calls Tryz.prog 119 #[.pointer (some ⟨D, 0, none⟩)] w (RetV (.int .i64 0) w) := by
  have c2 := h.c2
  have cc := made_yes h
  clear h
  go_enter Tryz.func119, Tryz.ntmps119
  go_wp2_with fail
  refine cc.mono ?_
  rintro e V1 ⟨rfl, rfl⟩
  clear cc
  go_wp2
  go_ret
  exact ⟨rfl, rfl⟩
set_option maxRecDepth 100000 in
theorem act_zero (h : DiskB w D R M n dn 0) : Calls Tryz.prog 120 #[.pointer (some ⟨D, 0, none⟩)] w (RetV (.bool false) w) := by
  have c3 := h.c3
  clear h
  go_enter Tryz.func120, Tryz.ntmps120
  go_wp2
  go_ret
  exact ⟨rfl, rfl⟩
end
end Go.Proofs.YtbkgbkmpalbdpaaGreatDoor

namespace Go.Proofs.YtbkgbkmpalbdpaaGreatDoor
open Go.RowKit Go.Lib

def u8v (x : UInt8) : Value := .int .u8 (x.toNat : Int)
/-- The bytes as values. -/
def bytV (l : List UInt8) : List Value := l.map u8v
theorem bytV_len (l : List UInt8) : (bytV l).length = l.length := List.length_map _
theorem bytV_app (a b : List UInt8) : bytV (a ++ b) = bytV a ++ bytV b := List.map_append
theorem bytV_one (l : List UInt8) : ∀ u ∈ bytV l, u.oneCell' = true := by
  intro u hu
  obtain ⟨y, _, rfl⟩ := List.mem_map.1 hu
  rfl
theorem info_u8 : (Tryz.prog.info? 5).map (fun i => (i.zero, i.size, i.bytes)) = some (some (.int .u8 0), 1, 1) := by kernel_rfl
theorem info_bys : (Tryz.prog.info? 23).map (fun i => (i.zero, i.size, i.bytes)) = some (some (.slice none 0 0), 1, 24) := by kernel_rfl
/-- A function that returns a row of its own with these elements. -/
def RetRow (t : TypeId) (n : Nat) (vs : List Value) (w : World) (e : Ending) (w' : World) : Prop := ∃ g cap, e = .returned (.slice (some ⟨g, 0, none⟩) n cap) ∧ w'.ownsRow w.heap.size t 1 (.slice (some ⟨g, 0, none⟩) n cap) n vs ∧ Below w.heap.size w w'
theorem bys_there (A : Addr) (n c : Nat) (w : World) : (binOp .eql 23 (.slice (some A) n c) (.slice none 0 0)).run Tryz.prog w = .ok (.bool false) w := by kernel_rfl
theorem bys_nil (w : World) : (binOp .eql 23 (.slice none 0 0) (.slice none 0 0)).run Tryz.prog w = .ok (.bool true) w := by kernel_rfl
set_option maxRecDepth 100000 in
theorem clone_bytes {w : World} {b off n c : Nat} {vs : List Value} (h : LiesV w b off vs) (hn : vs.length = n) (h1 : ∀ u ∈ vs, u.oneCell' = true) (hn2 : n ≤ 100000) : Calls Tryz.prog 54 #[.slice (some ⟨b, off, none⟩) n c] w (RetRow 5 n vs w) := by
  obtain ⟨W1, hW1⟩ : ∃ W1, W1 = w.alloc (.cells #[] 5) := ⟨_, rfl⟩
  have hb1 : Below w.heap.size w W1 := by rw [hW1]; exact (Below.refl _ _).alloc (Nat.le_refl _) _
  have ho1 : W1.ownsRow w.heap.size 5 1 (.slice (some ⟨w.heap.size, 0, none⟩) 0 0) 0 [] := by rw [hW1]; exact World.ownsRow_made (base := w.heap.size) w #[] 0 (e := 5) (size := 1) (Nat.le_refl _) (by unfold maxLen; omega) rfl
  have hl1 := h.below hb1
  have HB1 := Lib.hid hb1
  have HN := Lib.hid hn
  have hnil := bys_there ⟨b, off, none⟩ n c
  clear hb1 h hn
  go_enter Tryz.func54, Tryz.ntmps54
  go_upto_region 3 with fail
  go_wp2_with (at_builtin; rw [← hW1]; refine wpList_appM Tryz.underlying23 info_u8 rfl (by omega) _ rfl _ _ rfl w.heap.size w.heap.size 0 0 [] rfl ho1 b off n c vs rfl hl1 HN.out h1 (by omega) HB1.out.size _ rfl ?_)
  intro g cap w2 hown hg hat hlt
  rw [← hW1] at hg
  have HB2 := Lib.hid (HB1.out.grown hg HB1.out.size (fun q hq => by have : w.heap.size = q := Option.some.inj hq; omega))
  have HO2 := Lib.hid (show w2.ownsRow w.heap.size 5 1 (.slice (some ⟨g, 0, none⟩) n cap) n vs by simpa using hown)
  clear hown hg hat hlt
  go_wp2
  go_ret
  refine ⟨g, cap, ?_, HO2.out, HB2.out⟩
  simp
/-! What the disk's blocks are. -/
/-- The value v is a block of bytes (nil: never written); none of its memory is in X. -/
def ByX (X : List Nat) (w : World) (v : Value) : Option (List UInt8) → Prop
  | none => v = .slice none 0 0
  | some l => ∃ p c, v = .slice (some ⟨p, 0, none⟩) l.length c ∧ l.length ≤ c ∧ c ≤ maxLen ∧ LiesV w p 0 (bytV l) ∧ p ∉ X
theorem ByX.fr {X Y S : List Nat} {w w' : World} {v : Value} : ∀ {o : Option (List UInt8)}, ByX X w v o → Fr S w w' → (∀ x ∈ S, x ∈ X ∨ w.heap.size ≤ x) → (∀ x ∈ Y, x ∈ X ∨ w.heap.size ≤ x) → ByX Y w' v o
  | none, h, _, _, _ => h
  | some l, ⟨p, c, h1, h2, h3, h4, h5⟩, hf, hS, hY => by
    have hp : ∀ (Z : List Nat), (∀ x ∈ Z, x ∈ X ∨ w.heap.size ≤ x) → p ∉ Z := fun Z hZ hz => by
      rcases hZ p hz with q | q
      · exact h5 q
      · have := h4.1; omega
    have hb := hf.block p h4.1 (hp S hS)
    exact ⟨p, c, h1, h2, h3, ⟨Nat.lt_of_lt_of_le h4.1 hf.size, fun j v hj => (World.cell?_of_block hb).trans (h4.2 j v hj)⟩, hp Y hY⟩
/-- A block's bytes. -/
def bytesOf : Option (List UInt8) → List UInt8
  | none => List.replicate 64 0
  | some l => l
theorem zeros64 : List.replicate 64 (Value.int .u8 0) = bytV (List.replicate 64 (0 : UInt8)) := by
  simp [bytV, u8v]
/-- Row R of the disk. -/
def RowX (X : List Nat) (w : World) (R n : Nat) (cur : Nat → Option (List UInt8)) : Prop := ∃ vs : List Value, vs.length = n ∧ Blk w R vs.toArray 23 ∧ ∀ i v, vs[i]? = some v → ByX X w v (cur i)
theorem RowX.get {X : List Nat} {w : World} {R n : Nat} {cur : Nat → Option (List UInt8)} (h : RowX X w R n cur) {k : Nat} (hk : k < n) : ∃ v, w.cell? ⟨R, k, none⟩ = some v ∧ ByX X w v (cur k) := by
  obtain ⟨vs, h1, h2, h3⟩ := h
  have hk2 : k < vs.length := by omega
  exact ⟨vs[k], by rw [h2.cell]; simp [hk2], h3 k _ (List.getElem?_eq_getElem hk2)⟩
set_option maxRecDepth 100000 in
theorem at_nil {w : World} {D R M n k : Nat} {dn : Bool} {left : Nat} (h : DiskB w D R M n dn left) (hk : k < n) (hc : w.cell? ⟨R, k, none⟩ = some (.slice none 0 0)) : Calls Tryz.prog 33 #[.pointer (some ⟨D, 0, none⟩), .int .i64 (k : Int)] w (RetRow 5 64 (bytV (List.replicate 64 0)) w) := by
  have c0 := h.c0
  have hz := bys_nil
  have hk1 : (k : Int) < (n : Int) := by omega
  have hk0 : (0 : Int) ≤ (k : Int) := by omega
  clear h
  go_enter Tryz.func33, Tryz.ntmps33
  go_upto_region 2 with fail
  go_wp2_with (with_reducible refine wpList_make1 Tryz.underlying23 info_u8 rfl (by omega) _ rfl _ _ rfl w.heap.size _ _ 64 rfl rfl rfl rfl (by omega) (Nat.le_refl _) _ zeros64 ?_)
  intro w2 hown hg
  have HB2 := Lib.hid ((Below.refl w.heap.size w).grown hg (Nat.le_refl _) (fun q hq => by cases hq))
  have HO2 := Lib.hid hown
  clear hown hg
  go_wp2
  go_ret
  exact ⟨_, _, rfl, HO2.out, HB2.out⟩
set_option maxRecDepth 100000 in
theorem at_row {w : World} {D R M n k p c : Nat} {dn : Bool} {left : Nat} {l : List UInt8} (h : DiskB w D R M n dn left) (hk : k < n) (hc : w.cell? ⟨R, k, none⟩ = some (.slice (some ⟨p, 0, none⟩) l.length c)) (hl : LiesV w p 0 (bytV l)) (h64 : l.length = 64) : Calls Tryz.prog 33 #[.pointer (some ⟨D, 0, none⟩), .int .i64 (k : Int)] w (RetRow 5 64 (bytV l) w) := by
  have c0 := h.c0
  rw [h64] at hc
  have hz := bys_there ⟨p, 0, none⟩ 64 c
  have cc := clone_bytes (c := c) hl ((bytV_len l).trans h64) (bytV_one l) (by omega)
  have hk1 : (k : Int) < (n : Int) := by omega
  have hk0 : (0 : Int) ≤ (k : Int) := by omega
  clear h hl h64
  go_enter Tryz.func33, Tryz.ntmps33
  go_wp2_with fail
  refine cc.mono ?_
  rintro e V1 ⟨g, cap, rfl, ho, hb⟩
  have HO := Lib.hid ho
  have HB := Lib.hid hb
  clear cc ho hb
  go_wp2
  go_ret
  exact ⟨_, _, rfl, HO.out, HB.out⟩
theorem at_any {X : List Nat} {w : World} {D R M n k : Nat} {dn : Bool} {left : Nat} {cur : Nat → Option (List UInt8)} (h : DiskB w D R M n dn left) (hr : RowX X w R n cur) (hk : k < n) (h64 : ∀ l, cur k = some l → l.length = 64) : Calls Tryz.prog 33 #[.pointer (some ⟨D, 0, none⟩), .int .i64 (k : Int)] w (RetRow 5 64 (bytV (bytesOf (cur k))) w) := by
  obtain ⟨v, hc, hv⟩ := hr.get hk
  cases hcur : cur k with
  | none =>
    rw [hcur] at hv
    subst hv
    exact at_nil h hk hc
  | some l =>
    rw [hcur] at hv
    obtain ⟨p, c, rfl, _, _, hl, _⟩ := hv
    exact at_row h hk hc hl (h64 l hcur)
end Go.Proofs.YtbkgbkmpalbdpaaGreatDoor

namespace Go.Proofs.YtbkgbkmpalbdpaaGreatDoor
open Go.RowKit Go.Lib

/-- An entry: key, value, when it was put. -/
def ent (x : Int × Value × Nat) : MapEntry := { key := .int .i64 x.1, val := x.2.1, born := x.2.2 }
/-- Where a key stands, and its value. -/
def posE (x : Int) : List (Int × Value × Nat) → Nat → Option (Nat × Value)
  | [], _ => none
  | e :: r, j => if e.1 = x then some (j, e.2.1) else posE x r (j + 1)
def valE (x : Int) (z : Value) (es : List (Int × Value × Nat)) : Value := match posE x es 0 with
  | some p => p.2
  | none => z
theorem find_E (x : Int) : ∀ (es : List (Int × Value × Nat)) (_i j : Nat), Instr.findNow (.int .i64) (.int .i64 x) (es.map ent) j = some (posE x es j)
  | [], _, _ => rfl
  | e :: es, i, j => by
    have h := find_E x es i (j + 1)
    by_cases c : e.1 = x
    · simp [posE, ent, Instr.findNow, Instr.sameNow, c]
    · have c2 : ¬ x = e.1 := fun h => c h.symm
      have c3 : (x == e.1) = false := by simp [c2]
      simp [posE, ent, Instr.findNow, Instr.sameNow, c, c3]
      exact h
/-- Block B is the map of these entries. -/
def MapI (w : World) (B : Nat) (es : List (Int × Value × Nat)) (c : Nat) : Prop := w.heap[B]? = some (.map (es.map ent).toArray c)
section
variable {w w' : World} {B c : Nat} {es : List (Int × Value × Nat)}
theorem MapI.lt (h : MapI w B es c) : B < w.heap.size := (Array.getElem?_eq_some_iff.1 h).1
theorem MapI.fr {S : List Nat} (h : MapI w B es c) (hf : Fr S w w') (hB : B ∉ S) : MapI w' B es c := (hf.block B h.lt hB).trans h
theorem MapI.below (h : MapI w B es c) (hb : Below w.heap.size w w') : MapI w' B es c := (hb.block B h.lt).trans h
theorem MapI.set (h : MapI w B es c) (p : Addr) (u : Value) (hp : B ≠ p.block) : MapI (w.setCell p u) B es c := (Below.heap_setCell w p u B hp).trans h
theorem run_lookI {mty et : TypeId} {z : Value} (hm : Tryz.prog.underlying mty = some (.map 3 et)) (hz : ∀ w, (zeroValue et).run Tryz.prog w = .ok z w) (h : MapI w B es c) (x : Int) : (Instr.lookup mty (.map (some B)) (.int .i64 x) false).run Tryz.prog w = .ok (valE x z es) w := by
  have h1 := find_E x es 0 0
  have hc : ∀ b, (Instr.checkKey b 10000 3 (.int .i64 x)).run Tryz.prog w = .ok () w := fun b => MapKept.run_checkKey (k := .int .i64 x) Tryz.underlying3 (by simp [MapKept.IsKey]) b 9999
  unfold valE
  have hz' := hz w
  cases hp : posE x es 0 with
  | none =>
    rw [hp] at h1
    simp [Instr.lookup, run_underlying hm, MapKept.run_getObj_map h, hc, MapKept.run_findKey Tryz.underlying3 h1, Result.andThen, hz']
  | some p =>
    rw [hp] at h1
    simp [Instr.lookup, run_underlying hm, MapKept.run_getObj_map h, hc, MapKept.run_findKey Tryz.underlying3 h1, Result.andThen]
theorem frSet (B : Nat) (w : World) (o : Obj) : Fr [B] w { w with heap := w.heap.setIfInBounds B o } := by
  refine ⟨rfl, rfl, rfl, ?_, fun k hk hn => ?_⟩
  · show w.heap.size ≤ (w.heap.setIfInBounds B _).size
    simp
  · show (w.heap.setIfInBounds B _)[k]? = _
    exact Array.getElem?_setIfInBounds_ne (fun e => hn (by simp [e]))
theorem put_new {mty et : TypeId} (hm : Tryz.prog.underlying mty = some (.map 3 et)) (h : MapI w B es c) (x : Int) (v : Value) (hno : posE x es 0 = none) :
    ∃ w', (Instr.mapUpdate mty (.map (some B)) (.int .i64 x) v).run Tryz.prog w = .ok () w' ∧ MapI w' B (es ++ [(x, v, c)]) (c + 1) ∧ Fr [B] w w' := by
  have h1 := find_E x es 0 0
  rw [hno] at h1
  have hc : ∀ b, (Instr.checkKey b 10000 3 (.int .i64 x)).run Tryz.prog w = .ok () w := fun b => MapKept.run_checkKey (k := .int .i64 x) Tryz.underlying3 (by simp [MapKept.IsKey]) b 9999
  refine ⟨{ w with heap := w.heap.setIfInBounds B (.map ((es.map ent).toArray.push { key := .int .i64 x, val := v, born := c }) (c + 1)) }, ?_, ?_, frSet _ _ _⟩
  · simp [Instr.mapUpdate, run_underlying hm, MapKept.run_getObj_map h, hc, MapKept.run_findKey Tryz.underlying3 h1, MapKept.run_setObj_map _ h, Result.andThen]
  · show (w.heap.setIfInBounds B _)[B]? = _
    rw [Array.getElem?_setIfInBounds_self_of_lt h.lt]
    simp [ent]
theorem posE_at (x : Int) : ∀ (es : List (Int × Value × Nat)) (j q : Nat) (u : Value), posE x es j = some (q, u) → j ≤ q ∧ ∃ b, es[q - j]? = some (x, u, b)
  | [], _, _, _, h => by simp [posE] at h
  | e :: es, j, q, u, h => by
    unfold posE at h
    split at h
    · rename_i hx
      injection h with h
      injection h with h1 h2
      subst h1 h2
      exact ⟨Nat.le_refl _, e.2.2, by simp [← hx]⟩
    · obtain ⟨h1, b, h2⟩ := posE_at x es (j + 1) q u h
      refine ⟨by omega, b, ?_⟩
      rw [show q - j = (q - (j + 1)) + 1 by omega, List.getElem?_cons_succ]
      exact h2
/-- A value is exchanged. -/
def chE (q : Nat) (v : Value) (es : List (Int × Value × Nat)) : List (Int × Value × Nat) := es.modify q (fun e => (e.1, v, e.2.2))
theorem put_old {mty et : TypeId} (hm : Tryz.prog.underlying mty = some (.map 3 et)) (h : MapI w B es c) (x : Int) (v : Value) {q : Nat} {u : Value} (hq : posE x es 0 = some (q, u)) :
    ∃ w', (Instr.mapUpdate mty (.map (some B)) (.int .i64 x) v).run Tryz.prog w = .ok () w' ∧ MapI w' B (chE q v es) c ∧ Fr [B] w w' := by
  have h1 := find_E x es 0 0
  rw [hq] at h1
  obtain ⟨_, b, hb⟩ := posE_at x es 0 q u hq
  rw [Nat.sub_zero] at hb
  have hc : ∀ b, (Instr.checkKey b 10000 3 (.int .i64 x)).run Tryz.prog w = .ok () w := fun b => MapKept.run_checkKey (k := .int .i64 x) Tryz.underlying3 (by simp [MapKept.IsKey]) b 9999
  have hk : MapKept.IsKey (.int .i64) (.int .i64 x) := by simp [MapKept.IsKey]
  have hkey : ((((es.map ent).toArray)[q]?).map (·.key)).getD (.int .i64 x) = .int .i64 x := by simp [hb, ent]
  have e1 : (es.map ent).toArray.modify q (fun e => { e with key := .int .i64 x, val := v }) = ((chE q v es).map ent).toArray := by
    apply Array.ext'
    rw [Array.toList_modify]
    apply List.ext_getElem?
    intro i
    by_cases hi : q = i
    · subst hi
      simp [chE, hb, ent]
    · simp [chE, hi]
  refine ⟨{ w with heap := w.heap.setIfInBounds B (.map ((es.map ent).toArray.modify q (fun e => { e with key := .int .i64 x, val := v })) c) }, ?_, ?_, frSet _ _ _⟩
  · simp [Instr.mapUpdate, run_underlying hm, MapKept.run_getObj_map h, hc, MapKept.run_findKey Tryz.underlying3 h1, MapKept.run_keyThatStays hk, MapKept.run_setObj_map _ h, Result.andThen, hb, ent]
  · show (w.heap.setIfInBounds B _)[B]? = _
    rw [Array.getElem?_setIfInBounds_self_of_lt h.lt, e1]
end
theorem wpList_put {mty : TypeId} {ops : Array Oper} {rest : List Oper} {o : Oper} {a : Act} {Q : Exit → Act → World → Prop} (w : World) (hg : o.guard = none) (hd : o.dst = none) (m x v : Operand) (hop : o.op = Op.mapUpdate mty m x v)
    {B : Nat} {k : Int} {u : Value} {R : World → Prop} (hm : a.eval m = .map (some B)) (hx : a.eval x = .int .i64 k) (hv : a.eval v = u)
    (hr : ∃ w', (Instr.mapUpdate mty (.map (some B)) (.int .i64 k) u).run Tryz.prog w = .ok () w' ∧ R w')
    (hK : ∀ w', R w' → wpList Tryz.prog ops Q rest a w') : wpList Tryz.prog ops Q (o :: rest) a w := by
  refine wpList_plain hg fun K' hK' => ?_
  obtain ⟨w', hrun, r1⟩ := hr
  unfold Oper.wp
  simp [execOp, hop, hm, hx, hv, hrun, Result.andThen]
  refine hK' _ _ ?_
  rw [hd]
  exact hK w' r1
end Go.Proofs.YtbkgbkmpalbdpaaGreatDoor

namespace Go.Proofs.YtbkgbkmpalbdpaaGreatDoor
open Go.RowKit Go.Lib

def actB (left : Nat) : Bool := left == 1
def RetAct (D R M n left : Nat) (w : World) (e : Ending) (w' : World) : Prop := e = .returned (.bool (actB left)) ∧ DiskB w' D R M n (actB left) (left - 1) ∧ Fr [D] w w'
set_option maxRecDepth 100000 in
theorem act_any {w : World} {D R M n left : Nat} (h : DiskB w D R M n false left) (hl : left ≤ 1000000) : Calls Tryz.prog 120 #[.pointer (some ⟨D, 0, none⟩)] w (RetAct D R M n left w) := by
  rcases Nat.eq_zero_or_pos left with rfl | hp
  · refine (act_zero h).mono ?_
    rintro e w' ⟨rfl, rfl⟩
    exact ⟨rfl, h, Fr.refl _ _⟩
  obtain ⟨m, rfl⟩ : ∃ m, left = m + 1 := ⟨left - 1, by omega⟩
  have c3 := h.c3
  have f3 := Blk.free h 3
  have u1 : IntKind.i64.wrap (((m + 1 : Nat) : Int) - 1) = (m : Int) := by rw [IntKind.wrap_i64]; omega
  have n0 : ((((m + 1 : Nat) : Int)) == 0) = false := by rw [beq_eq_false_iff_ne]; omega
  have h1 : Blk (w.setCell ⟨D, 3, none⟩ (.int .i64 (m : Int))) D #[.slice (some ⟨R, 0, none⟩) n n, .map (some M), .bool false, .int .i64 (m : Int)] 102 := Blk.set h 3 _
  obtain ⟨W1, hW1⟩ : ∃ W1, W1 = w.setCell ⟨D, 3, none⟩ (.int .i64 (m : Int)) := ⟨_, rfl⟩
  rw [← hW1] at h1
  have h2 : Blk (W1.setCell ⟨D, 2, none⟩ (.bool ((m : Int) == 0))) D #[.slice (some ⟨R, 0, none⟩) n n, .map (some M), .bool ((m : Int) == 0), .int .i64 (m : Int)] 102 := Blk.set h1 2 _
  have HF := Lib.hid (show Fr [D] w (W1.setCell ⟨D, 2, none⟩ (.bool ((m : Int) == 0))) by
    rw [hW1]
    exact ((Fr.refl [D] w).set _ (.inl (by simp)) _).set _ (.inl (by simp)) _)
  have hb : ((m : Int) == 0) = actB (m + 1) := by
    unfold actB
    by_cases e : m = 0
    · subst e; rfl
    · have e1 : ((m : Int) == 0) = false := by rw [beq_eq_false_iff_ne]; omega
      have e2 : (m + 1 == 1) = false := by rw [beq_eq_false_iff_ne]; omega
      rw [e1, e2]
  rw [hb] at h2 HF
  have HE := Lib.hid hb
  have d3 := Blk.cell h1 3
  have d2 := Blk.cell h1 2
  have g2 := Blk.free h1 2
  have HD := Lib.hid h2
  have e2 := Blk.cell h2 2
  obtain ⟨Post, hPost⟩ : ∃ P, RetAct D R M n (m + 1) w = P := ⟨_, rfl⟩
  have HP := Lib.hid (show ∀ w', DiskB w' D R M n (actB (m + 1)) m → Fr [D] w w' → Post (.returned (.bool (actB (m + 1)))) w' from fun w' q1 q2 => by rw [← hPost]; exact ⟨rfl, q1, q2⟩)
  rw [hPost]
  clear h h1 h2 hb hp hl hPost
  generalize actB (m + 1) = bb at *
  generalize (((m + 1 : Nat)) : Int) = L at *
  go_enter Tryz.func120, Tryz.ntmps120
  go_upto_region 4 with fail
  rw [← hW1]
  clear hW1
  go_upto_region 5 with fail
  rw [HE.out]
  go_wp2
  exact HP.out _ HD.out HF.out
end Go.Proofs.YtbkgbkmpalbdpaaGreatDoor

namespace Go.Proofs.YtbkgbkmpalbdpaaGreatDoor
open Go.RowKit Go.Lib

/-- Rows of blocks that are kept of a loose block. -/
def RowsX (X : List Nat) (w : World) (u : Value) (rows : List (List UInt8)) : Prop := ∃ (q c : Nat) (us : List Value), u = .slice (some ⟨q, 0, none⟩) rows.length c ∧ rows.length ≤ c ∧ c ≤ maxLen ∧ q ∉ X ∧ us.length = rows.length ∧ LiesV w q 0 us ∧ ∀ (j : Nat) (u : Value), us[j]? = some u → ByX X w u (rows[j]?)
theorem away {X Z : List Nat} {w : World} {p : Nat} (h : p ∉ X) (hl : p < w.heap.size) (hZ : ∀ x ∈ Z, x ∈ X ∨ w.heap.size ≤ x) : p ∉ Z := fun hz => by
  rcases hZ p hz with q | q
  · exact h q
  · omega
theorem LiesV.fr {S : List Nat} {w w' : World} {b off : Nat} {ys : List Value} (h : LiesV w b off ys) (hf : Fr S w w') (hb : b ∉ S) : LiesV w' b off ys :=
  ⟨Nat.lt_of_lt_of_le h.1 hf.size, fun j v hj => (World.cell?_of_block (hf.block b h.1 hb)).trans (h.2 j v hj)⟩
theorem RowsX.fr {X Y S : List Nat} {w w' : World} {u : Value} {rows : List (List UInt8)} (h : RowsX X w u rows) (hf : Fr S w w') (hS : ∀ x ∈ S, x ∈ X ∨ w.heap.size ≤ x) (hY : ∀ x ∈ Y, x ∈ X ∨ w.heap.size ≤ x) : RowsX Y w' u rows := by
  obtain ⟨q, c, us, h1, h2, h3, h4, h5, h6, h7⟩ := h
  exact ⟨q, c, us, h1, h2, h3, away h4 h6.1 hY, h5, h6.fr hf (away h4 h6.1 hS), fun j u hj => (h7 j u hj).fr hf hS hY⟩
/-- The map of what is loose. -/
def LooseX (X : List Nat) (w : World) (es : List (Int × Value × Nat)) (lo : List (Nat × List (List UInt8))) : Prop := es.length = lo.length ∧ ∀ (i : Nat) (e : Int × Value × Nat), es[i]? = some e → ∃ x : Nat × List (List UInt8), lo[i]? = some x ∧ e.1 = (x.1 : Int) ∧ RowsX X w e.2.1 x.2
theorem LooseX.nil (X : List Nat) (w : World) : LooseX X w [] [] := ⟨rfl, fun i e h => by simp at h⟩
theorem LooseX.fr {X Y S : List Nat} {w w' : World} {es : List (Int × Value × Nat)} {lo : List (Nat × List (List UInt8))} (h : LooseX X w es lo) (hf : Fr S w w') (hS : ∀ x ∈ S, x ∈ X ∨ w.heap.size ≤ x) (hY : ∀ x ∈ Y, x ∈ X ∨ w.heap.size ≤ x) : LooseX Y w' es lo :=
  ⟨h.1, fun i e he => by
    obtain ⟨x, h1, h2, h3⟩ := h.2 i e he
    exact ⟨x, h1, h2, h3.fr hf hS hY⟩⟩
theorem posE_none (x : Int) : ∀ (es : List (Int × Value × Nat)) (j : Nat), (∀ e ∈ es, e.1 ≠ x) → posE x es j = none
  | [], _, _ => rfl
  | e :: es, j, h => by
    unfold posE
    rw [if_neg (h e (by simp))]
    exact posE_none x es (j + 1) (fun e he => h e (by simp [he]))
theorem LooseX.none {X : List Nat} {w : World} {es : List (Int × Value × Nat)} {lo : List (Nat × List (List UInt8))} (h : LooseX X w es lo) {k : Nat} (hk : ∀ x ∈ lo, x.1 ≠ k) : posE (k : Int) es 0 = none := by
  apply posE_none
  intro e he
  obtain ⟨i, hi⟩ := List.mem_iff_getElem?.1 he
  obtain ⟨x, h1, h2, _⟩ := h.2 i e hi
  have := hk x (List.mem_of_getElem? h1)
  omega
theorem RowX.fr {X Y S : List Nat} {w w' : World} {R n : Nat} {cur : Nat → Option (List UInt8)} (h : RowX X w R n cur) (hf : Fr S w w') (hR : R ∉ S) (hS : ∀ x ∈ S, x ∈ X ∨ w.heap.size ≤ x) (hY : ∀ x ∈ Y, x ∈ X ∨ w.heap.size ≤ x) : RowX Y w' R n cur := by
  obtain ⟨vs, h1, h2, h3⟩ := h
  exact ⟨vs, h1, (hf.block R h2.lt hR).trans h2, fun i v hv => (h3 i v hv).fr hf hS hY⟩
/-- The disk D; none of its memory is in X. -/
structure DiskX (X : List Nat) (w : World) (D R M n : Nat) (cur : Nat → Option (List UInt8)) (lo : List (Nat × List (List UInt8))) (dn : Bool) (left : Nat) : Prop where
  disk : DiskB w D R M n dn left
  row : RowX (D :: R :: M :: X) w R n cur
  map : ∃ es c, MapI w M es c ∧ LooseX (D :: R :: M :: X) w es lo
  ne1 : D ≠ R
  ne2 : D ≠ M
  ne3 : R ≠ M
  notX : D ∉ X ∧ R ∉ X ∧ M ∉ X
  len : ∀ k l, cur k = some l → l.length = 64
section
variable {X Y S : List Nat} {w w' : World} {D R M n left : Nat} {cur : Nat → Option (List UInt8)} {lo : List (Nat × List (List UInt8))} {dn : Bool}
theorem DiskX.ltR (h : DiskX X w D R M n cur lo dn left) : R < w.heap.size := by
  obtain ⟨vs, _, h2, _⟩ := h.row
  exact h2.lt
theorem DiskX.ltM (h : DiskX X w D R M n cur lo dn left) : M < w.heap.size := by
  obtain ⟨es, c, h1, _⟩ := h.map
  exact h1.lt
theorem DiskX.ltD (h : DiskX X w D R M n cur lo dn left) : D < w.heap.size := Blk.lt h.disk
theorem DiskX.fr (h : DiskX X w D R M n cur lo dn left) (hf : Fr S w w') (hS : ∀ x ∈ S, x ∈ X ∨ w.heap.size ≤ x) (hY : ∀ x ∈ Y, x ∈ X ∨ w.heap.size ≤ x) : DiskX Y w' D R M n cur lo dn left := by
  have hD := h.ltD
  have hR := h.ltR
  have hM := h.ltM
  have sD : ∀ Z : List Nat, (∀ x ∈ Z, x ∈ X ∨ w.heap.size ≤ x) → D ∉ Z ∧ R ∉ Z ∧ M ∉ Z := fun Z hZ => ⟨away h.notX.1 hD hZ, away h.notX.2.1 hR hZ, away h.notX.2.2 hM hZ⟩
  have hS2 : ∀ x ∈ S, x ∈ D :: R :: M :: X ∨ w.heap.size ≤ x := fun x hx => by
    rcases hS x hx with q | q
    · exact .inl (by simp [q])
    · exact .inr q
  have hY2 : ∀ x ∈ D :: R :: M :: Y, x ∈ D :: R :: M :: X ∨ w.heap.size ≤ x := fun x hx => by
    simp only [List.mem_cons] at hx ⊢
    rcases hx with q | q | q | q
    · exact .inl (.inl q)
    · exact .inl (.inr (.inl q))
    · exact .inl (.inr (.inr (.inl q)))
    · rcases hY x q with r | r
      · exact .inl (.inr (.inr (.inr r)))
      · exact .inr r
  obtain ⟨es, c, hm1, hm2⟩ := h.map
  exact ⟨(hf.block D hD (sD S hS).1).trans h.disk, h.row.fr hf (sD S hS).2.1 hS2 hY2, ⟨es, c, hm1.fr hf (sD S hS).2.2, hm2.fr hf hS2 hY2⟩, h.ne1, h.ne2, h.ne3, sD Y hY, h.len⟩
theorem DiskX.below (h : DiskX X w D R M n cur lo dn left) (hb : Below w.heap.size w w') : DiskX X w' D R M n cur lo dn left := h.fr (S := []) (fr_of_below hb []) (by simp) (fun x hx => .inl hx)
/-- Only the disk's own block turns. -/
theorem DiskX.own (h : DiskX X w D R M n cur lo dn left) (hf : Fr [D] w w') {dn2 : Bool} {left2 : Nat} (hd : DiskB w' D R M n dn2 left2) : DiskX X w' D R M n cur lo dn2 left2 := by
  have hS2 : ∀ x ∈ [D], x ∈ D :: R :: M :: X ∨ w.heap.size ≤ x := fun x hx => .inl (by simp at hx; simp [hx])
  have hY2 : ∀ x ∈ D :: R :: M :: X, x ∈ D :: R :: M :: X ∨ w.heap.size ≤ x := fun x hx => .inl hx
  obtain ⟨es, c, hm1, hm2⟩ := h.map
  exact ⟨hd, h.row.fr hf (by simp; exact fun e => h.ne1 e.symm) hS2 hY2, ⟨es, c, hm1.fr hf (by simp; exact fun e => h.ne2 e.symm), hm2.fr hf hS2 hY2⟩, h.ne1, h.ne2, h.ne3, h.notX, h.len⟩
/-- What Sync gives. -/
def RetSync (X : List Nat) (D R M n : Nat) (cur : Nat → Option (List UInt8)) (lo : List (Nat × List (List UInt8))) (left : Nat) (w : World) (e : Ending) (w' : World) : Prop :=
  Fr [D] w w' ∧ ((actB left = true ∧ e = .returned (.int .i64 9) ∧ DiskX X w' D R M n cur lo true (left - 1)) ∨
    (actB left = false ∧ e = .returned (.int .i64 0) ∧ ∃ M', w.heap.size ≤ M' ∧ DiskX X w' D R M' n cur [] false (left - 1)))
set_option maxRecDepth 100000 in
theorem sync_any (h : DiskX X w D R M n cur lo false left) (hl : left ≤ 1000000) (hX : ∀ x ∈ X, x < w.heap.size) : Calls Tryz.prog 61 #[.pointer (some ⟨D, 0, none⟩)] w (RetSync X D R M n cur lo left w) := by
  have cc := ready_ok h.disk
  have ca := act_any h.disk hl
  have HD := Lib.hid h
  have HX := Lib.hid hX
  obtain ⟨Post, hPost⟩ : ∃ P, RetSync X D R M n cur lo left w = P := ⟨_, rfl⟩
  have HP1 := Lib.hid (show ∀ w', Fr [D] w w' → actB left = true → DiskX X w' D R M n cur lo true (left - 1) → Post (.returned (.int .i64 9)) w' from fun w' q1 q2 q3 => by rw [← hPost]; exact ⟨q1, .inl ⟨q2, rfl, q3⟩⟩)
  have HP2 := Lib.hid (show ∀ w' M', Fr [D] w w' → actB left = false → w.heap.size ≤ M' → DiskX X w' D R M' n cur [] false (left - 1) → Post (.returned (.int .i64 0)) w' from fun w' M' q1 q2 q3 q4 => by rw [← hPost]; exact ⟨q1, .inr ⟨q2, rfl, M', q3, q4⟩⟩)
  rw [hPost]
  clear h hl hPost hX
  cases hb : actB left with
  | true =>
    unfold RetAct at ca
    rw [hb] at ca
    have HB := Lib.hid hb
    clear hb
    go_enter Tryz.func61, Tryz.ntmps61
    go_wp2_with fail
    refine cc.mono ?_
    rintro e V1 ⟨rfl, rfl⟩
    clear cc
    go_wp2_with fail
    refine ca.mono ?_
    rintro e V2 ⟨rfl, hd, hf⟩
    have HD2 := Lib.hid (HD.out.own hf hd)
    have HF2 := Lib.hid hf
    clear ca hd hf
    go_wp2
    exact HP1.out _ HF2.out HB.out HD2.out
  | false =>
    unfold RetAct at ca
    rw [hb] at ca
    have HB := Lib.hid hb
    clear hb
    go_enter Tryz.func61, Tryz.ntmps61
    go_wp2_with fail
    refine cc.mono ?_
    rintro e V1 ⟨rfl, rfl⟩
    clear cc
    go_wp2_with fail
    refine ca.mono ?_
    rintro e V2 ⟨rfl, hd, hf⟩
    have HD2 := Lib.hid (HD.out.own hf hd)
    have HF2 := Lib.hid hf
    clear ca hd hf
    have hmm := @run_makeMap Tryz.prog
    go_upto_region 6 with fail
    obtain ⟨W3, hW3⟩ : ∃ W3, W3 = V2.alloc (.map #[] 0) := ⟨_, rfl⟩
    have hb3 : Below V2.heap.size V2 W3 := by rw [hW3]; exact (Below.refl _ _).alloc (Nat.le_refl _) _
    have hd3 : Blk W3 D #[.slice (some ⟨R, 0, none⟩) n n, .map (some M), .bool false, .int .i64 ((left - 1 : Nat) : Int)] 102 := Blk.below HD2.out.disk hb3
    have hm3 : MapI W3 V2.heap.size [] 0 := by rw [hW3]; exact heap_alloc_new V2 _
    have f3 := Blk.free hd3 1
    have c3 := Blk.cell hd3 1
    rw [hW3] at f3 c3
    have HD3 := Lib.hid (HD2.out.fr (S := []) (Y := V2.heap.size :: X) (fr_of_below hb3 []) (by simp) (fun x hx => by
      rcases List.mem_cons.1 hx with q | q
      · exact .inr (by omega)
      · exact .inl q))
    have HM3 := Lib.hid hm3
    have HBD := Lib.hid hd3
    have HF3 := Lib.hid (HF2.out.alloc (.map #[] 0))
    rw [← hW3] at HF3
    have HS2 := Lib.hid HF2.out.size
    have HLD := Lib.hid (show D < V2.heap.size ∧ W3.heap.size = V2.heap.size + 1 from ⟨HD2.out.ltD, by rw [hW3]; simp⟩)
    obtain ⟨L3, hL3⟩ : ∃ L3, V2.heap.size = L3 := ⟨_, rfl⟩
    rw [hL3] at HM3 HS2 HLD HD3
    have HL3 := Lib.hid hL3
    clear hb3 hd3 hm3 HD2 HF2
    go_upto_region 7 with fail
    rw [← hW3]
    clear hW3
    have hf4 : Fr [D] W3 (W3.setCell ⟨D, 1, none⟩ (.map (some L3))) := (Fr.refl [D] W3).set _ (.inl (by simp)) _
    have hd4 : DiskB (W3.setCell ⟨D, 1, none⟩ (.map (some L3))) D R L3 n false (left - 1) := Blk.set HBD.out 1 _
    have HD4 := Lib.hid (show DiskX X (W3.setCell ⟨D, 1, none⟩ (.map (some L3))) D R L3 n cur [] false (left - 1) by
      have q := HD3.out
      have hlt := HLD.out
      have hsz : L3 ∉ X := fun hx => by
        have h1 := HX.out L3 hx
        have h2 := HS2.out
        omega
      have n1 := q.notX
      simp only [List.mem_cons, not_or] at n1
      have q2 := q.row.fr (S := [D]) (Y := D :: R :: L3 :: X) hf4 (by simp; exact fun e => q.ne1 e.symm) (fun x hx => .inl (by simp at hx; simp [hx])) (fun x hx => .inl (by
        simp only [List.mem_cons] at hx ⊢
        rcases hx with q | q | q | q <;> simp [q]))
      exact ⟨hd4, q2, ⟨[], 0, HM3.out.fr hf4 (by simp; omega), LooseX.nil _ _⟩, q.ne1, n1.1.1, n1.2.1.1, ⟨n1.1.2, n1.2.1.2, hsz⟩, q.len⟩)
    have HF4 := Lib.hid (HF3.out.trans hf4)
    clear hf4 hd4 HD3 HBD HM3 HF3
    go_wp2
    exact HP2.out _ L3 HF4.out HB.out HS2.out HD4.out
end
end Go.Proofs.YtbkgbkmpalbdpaaGreatDoor

namespace Go.Proofs.YtbkgbkmpalbdpaaGreatDoor
open Go.RowKit Go.Lib

/-- Block B is a writer that has written l; all of its memory lies at base or above. -/
def WrB (w : World) (B base : Nat) (l : List UInt8) : Prop := base ≤ B ∧ ∃ g cap, Blk w B #[.slice (some ⟨g, 0, none⟩) l.length cap] 180 ∧ w.ownsRow base 5 1 (.slice (some ⟨g, 0, none⟩) l.length cap) l.length (bytV l) ∧ g ≠ B
/-- A number in some bytes. -/
def numB (n : Nat) : Nat → List UInt8
  | 0 => []
  | s + 1 => UInt8.ofNat (n / 256 ^ s) :: numB n s
theorem numB_len (n : Nat) : ∀ s, (numB n s).length = s
  | 0 => rfl
  | s + 1 => by rw [numB, List.length_cons, numB_len n s]
/-- Blocks that are no rows of bytes stay as they are. -/
def KeepT (B : Nat) (w w' : World) : Prop := ∀ (x : Nat) (cs : Array Value) (t : TypeId), Blk w x cs t → t ≠ 5 → x ≠ B → Blk w' x cs t
theorem KeepT.refl (B : Nat) (w : World) : KeepT B w w := fun _ _ _ h _ _ => h
theorem KeepT.trans {B : Nat} {a b c : World} (h : KeepT B a b) (k : KeepT B b c) : KeepT B a c := fun x cs t q1 q2 q3 => k x cs t (h x cs t q1 q2 q3) q2 q3
theorem KeepT.grown {B g n cap base z : Nat} {w w' : World} {xs : List Value} (ho : w.ownsRow base 5 z (.slice (some ⟨g, 0, none⟩) n cap) n xs) (hg : w.grownBy w' (some g)) : KeepT B w w' :=
  fun _x _ _ q1 q2 _ => q1.grown hg (fun e => own_ne ho q1 (fun e2 => q2 e2.symm) (Option.some.inj e))
theorem KeepT.set {B : Nat} {w w' : World} (h : KeepT B w w') (u : Value) : KeepT B w (w'.setCell ⟨B, 0, none⟩ u) := fun x cs t q1 q2 q3 => (h x cs t q1 q2 q3).setOther _ _ q3
theorem KeepT.below {B : Nat} {w w' : World} (h : Below w.heap.size w w') : KeepT B w w' := fun _ _ _ q1 _ _ => q1.below h
/-- What a method of the writer gives that writes m. -/
def RetWrB (B base : Nat) (l : List UInt8) (w : World) (e : Ending) (w' : World) : Prop := e = .returned (.tuple #[]) ∧ WrB w' B base l ∧ Below base w w' ∧ KeepT B w w'
theorem numB_at (n : Nat) : ∀ s i, i < s → (numB n s)[s - 1 - i]? = some (UInt8.ofNat (n / 256 ^ i))
  | 0, i, h => by omega
  | s + 1, i, h => by
    rw [numB]
    rcases Nat.lt_or_ge i s with h1 | h1
    · rw [show s + 1 - 1 - i = (s - 1 - i) + 1 by omega, List.getElem?_cons_succ]
      exact numB_at n s i h1
    · obtain rfl : i = s := by omega
      simp
theorem byt_at (n i : Nat) : ((n : Int) / 2 ^ (8 * i) % 256) = (((UInt8.ofNat (n / 256 ^ i)).toNat : Nat) : Int) := by
  have e : (256 : Nat) ^ i = 2 ^ (8 * i) := by rw [Nat.pow_mul]
  rw [e]
  have h2 : ((2 ^ (8 * i) : Nat) : Int) = (2 : Int) ^ (8 * i) := by push_cast; rfl
  rw [← h2]
  simp
set_option maxRecDepth 100000 in
set_option maxHeartbeats 3200000 in
theorem number_any {w : World} {B base n size : Nat} {l : List UInt8} (h : WrB w B base l) (hn : n < 9007199254740992) (hs : size ≤ 8) (hl : l.length ≤ 1000) : Calls Tryz.prog 121 #[.pointer (some ⟨B, 0, none⟩), .int .i64 (n : Int), .int .i64 (size : Int)] w (RetWrB B base (l ++ numB n size) w) := by
  have HN := Lib.hid hn
  have HW := Lib.hid h
  have u0 : IntKind.i64.wrap ((size : Int) - 1) = (size : Int) - 1 := by rw [IntKind.wrap_i64]; omega
  clear h hn
  go_enter Tryz.func121, Tryz.ntmps121
  go_wp2
  go_loopw [6] (fun s6 wr => ∃ j : Nat, j ≤ size ∧ s6 = .int .i64 ((size : Int) - 1 - (j : Int)) ∧ WrB wr B base (l ++ (numB n size).take j) ∧ Below base w wr ∧ KeepT B w wr) (fun s6 _ => (intOf s6 + 1).toNat)
  case atStart => exact ⟨0, Nat.zero_le _, by simp, by simpa using HW.out, Below.refl _ _, KeepT.refl _ _⟩
  case round =>
    obtain ⟨j, hj, rfl, hw, hb, hkt⟩ := hrel
    have HKT := Lib.hid hkt
    clear hkt
    by_cases hlt : j < size
    · obtain ⟨i, hi⟩ : ∃ i, size - 1 - j = i := ⟨_, rfl⟩
      have hi2 : (size : Int) - 1 - (j : Int) = (i : Int) := by omega
      rw [hi2]
      obtain ⟨hBb, g, cap, hB, hrow, hne⟩ := hw
      obtain ⟨L, hL⟩ : ∃ L, (l ++ (numB n size).take j).length = L := ⟨_, rfl⟩
      rw [hL] at hB hrow
      have k0 := hB.cell 0
      have kf := hB.free 0
      have HRW := Lib.hid hrow
      have HBL := Lib.hid hB
      have HNE := Lib.hid hne
      have HBG := Lib.hid hBb
      have HWR := Lib.hid hb
      have HL2 := Lib.hid (show L ≤ 1008 by rw [← hL, List.length_append, List.length_take]; omega)
      have HBS := Lib.hid (show base ≤ wr.heap.size by have := hB.lt; omega)
      have HGB := Lib.hid (show base ≤ g from (World.ownsRow.lt hrow g rfl).1)
      have HTK := Lib.hid (show (numB n size).take (j + 1) = (numB n size).take j ++ [UInt8.ofNat (n / 256 ^ i)] by
        have q := numB_at n size i (by omega)
        rw [show size - 1 - i = j by omega] at q
        rw [List.take_add_one, q]; rfl)
      have HLN := Lib.hid (show (l ++ (numB n size).take (j + 1)).length = L + 1 by
        rw [HTK.out, ← List.append_assoc, List.length_append, hL]; rfl)
      clear hrow hne hBb hb hL hi
      have ui : IntKind.i64.wrap (8 * (i : Int)) = ((8 * i : Nat) : Int) := by rw [IntKind.wrap_i64]; omega
      have HB0 := Lib.hid (And.intro k0 hB.lt)
      have HBB := Lib.hid (Below.refl wr.heap.size wr)
      go_upto_region 3 with fail
      refine Lex.wp_region_lex (fun w' => w'.cell? ⟨B, 0, none⟩ = some (.slice (some ⟨g, 0, none⟩) L cap)) (fun j => j != 14)
        [(0, true), (1, true), (2, true), (3, true), (4, true), (5, true), (6, true), (7, true), (8, true), (9, false), (10, false), (11, false), (12, false), (13, true), (14, false)]
        (by kernel_rfl) (by kernel_rfl) (by kernel_rfl) (by kernel_rfl) k0 ?_
      have hb0 : Below wr.heap.size wr wr.drew := ⟨rfl, rfl, rfl, Nat.le_refl _, fun _ _ => rfl⟩
      have hw0 : Below wr.heap.size wr wr.drew := ⟨HBB.out.os, HBB.out.tape, HBB.out.output, HBB.out.size, HBB.out.block⟩
      generalize hV0 : wr.drew = V0 at *
      clear hV0
      iterate 9 (refine Lex.lex_take (v := ?_) rfl rfl (by rfl) (fun _ hS => ?_) ?_; rotate_left 1; (focus (have q0 := hS; clear hS; go_simp; with_reducible rfl)); simp only [List.setIfInBounds_toArray, List.set_cons_zero, List.set_cons_succ])
      refine Lex.lex_do rfl ?_
      have HV0 := Lib.hid hb0
      go_wp2_with fail
      refine Lex.lexQ_normal (fun _ => (HV0.out.cell (p := ⟨B, 0, none⟩) HB0.out.2).trans HB0.out.1) ?_
      refine Lex.lex_do rfl ?_
      go_wp2_with fail
      refine Lex.lexQ_normal (fun _ => (HV0.out.alloc HV0.out.size _).cell HB0.out.2 |>.trans HB0.out.1) ?_
      refine Lex.lex_do rfl ?_
      rw [byt_at]; refine wpList_app Tryz.underlying23 info_u8 rfl (by omega) (by omega) _ rfl _ _ rfl base _ L (bytV (l ++ (numB n size).take j)) rfl ((row_fr HRW.out (fr_of_below hb0 []) (by simp)).alloc _) V0.heap.size #[u8v (UInt8.ofNat (n / 256 ^ i))] rfl (heap_alloc_new V0 _) rfl (rows_one _ rfl) (by have q := HL2.out; omega) (by have q1 := HBS.out; have q2 := hb0.size; simp; omega) (V0.heap.size + 1) (by simp) ?_
      intro g3 cap3 w12 hown hgrow hat hlt3
      have HF := Lib.hid (show Below base wr w12 ∧ Blk w12 B #[.slice (some ⟨g, 0, none⟩) L cap] 180 from ⟨((hb0.alloc hb0.size _).mono (by have q := HBS.out; omega)).grown hgrow (by have q1 := HBS.out; have q2 := hb0.size; simp; omega) (fun q hq => by have h1 : g = q := Option.some.inj hq; have h2 := HGB.out; omega), (HBL.out.below (hb0.alloc hb0.size _)).grown hgrow (fun e => by have h1 : g = B := Option.some.inj e; exact HNE.out h1)⟩)
      have HO := Lib.hid (show w12.ownsRow base 5 1 (.slice (some ⟨g3, 0, none⟩) (L + 1) cap3) (L + 1) (bytV (l ++ (numB n size).take (j + 1))) by
      rw [HTK.out, ← List.append_assoc, bytV_app]
      exact hown)
      have HKS := Lib.hid (show KeepT B wr w12 from (KeepT.below (hb0.alloc hb0.size _)).trans (KeepT.grown ((row_fr HRW.out (fr_of_below hb0 []) (by simp)).alloc _) hgrow))
      have HN3 := Lib.hid (show g3 ≠ B from by
      have q1 := HBL.out.lt
      have q2 := hb0.size
      rcases hat with h | h
      (have h1 : g = g3 := Option.some.inj h; rw [← h1]; exact HNE.out)
      omega)
      have kk := HF.out.2.cell 0
      have kf := HF.out.2.free 0
      clear hown hgrow hat hlt3
      go_wp2_with fail
      refine Lex.lexQ_normal (fun _ => kk) ?_
      refine Lex.lex_do rfl ?_
      go_wp2_with fail
      refine Lex.lexQ_normal (fun _ => kk) ?_
      refine Lex.lex_take (v := ?_) rfl rfl (by rfl) (fun _ hS => ?_) ?_; rotate_left 1; (focus (have q0 := hS; clear hS; go_simp; with_reducible rfl)); simp only [List.setIfInBounds_toArray, List.set_cons_zero, List.set_cons_succ]
      refine Lex.lex_do rfl ?_
      go_wp2_with fail
      refine Lex.lexQ_normal (fun h => absurd h (by decide)) ?_
      refine Lex.lex_nil ?_
      have HF2 := Lib.hid (show Below base wr (w12.setCell ⟨B, 0, none⟩ (.slice (some ⟨g3, 0, none⟩) (L + 1) cap3)) ∧ WrB (w12.setCell ⟨B, 0, none⟩ (.slice (some ⟨g3, 0, none⟩) (L + 1) cap3)) B base (l ++ (numB n size).take (j + 1)) from by
        refine ⟨HF.out.1.setCell (p := ⟨B, 0, none⟩) HBG.out _, HBG.out, g3, cap3, ?_, ?_, HN3.out⟩
        · rw [HLN.out]; exact HF.out.2.set 0 _
        · rw [HLN.out]
          exact row_fr (S := [B]) HO.out ((Fr.refl _ _).set _ (.inl (by simp)) _) (fun q hq => by have : g3 = q := Option.some.inj hq; rw [← this]; simp; exact HN3.out))
      clear k0 kf HB0 hb0 hw0
      go_wp2
      go_roundw
      case rel => exact ⟨j + 1, by omega, by first | rfl | go_num, HF2.out.2, HWR.out.trans HF2.out.1, HKT.out.trans (HKS.out.set _)⟩
      case measure => simp [intOf]
    · obtain rfl : size = j := by omega
      have hz : (size : Int) - 1 - (size : Int) = -1 := by omega
      rw [hz]
      have hT : (numB n size).take size = numB n size := by
        have := List.take_length (l := numB n size)
        rw [numB_len] at this
        exact this
      rw [hT] at hw
      have HW2 := Lib.hid hw
      have HB2 := Lib.hid hb
      clear hw hb hT
      go_wp2
      exact bodyPost_end (v := .tuple #[]) (by simp [results, Tryz.results121, go_sem]) rfl ⟨rfl, HW2.out, HB2.out, HKT.out⟩
end Go.Proofs.YtbkgbkmpalbdpaaGreatDoor
