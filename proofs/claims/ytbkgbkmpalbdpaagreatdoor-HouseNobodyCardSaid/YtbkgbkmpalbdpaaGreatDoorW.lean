/- Words for memory: a slice that reads as a list of values; frames. Plain lemmas, no program in sight. -/
import Derived.WalkKit
import Derived.Below
import Derived.Deep.Draws
import Derived.Deep.AppendLies
namespace Go.Proofs.YtbkgbkmpalbdpaaGreatDoor
open Go.RowKit

/-- From address A on, the cells hold the values vs. -/
def At (w : World) (A : Option Addr) (vs : List Value) : Prop :=
  vs = [] ∨ ∃ b off, A = some ⟨b, off, none⟩ ∧ b < w.heap.size ∧ ∀ j v, vs[j]? = some v → w.cell? ⟨b, off + j, none⟩ = some v

/-- A slice of numbers. -/
def Ints (κ : IntKind) (w : World) (A : Option Addr) (xs : List Int) : Prop := At w A (xs.map (Value.int κ))

/-- The slice value v reads as the list vs. -/
def Sl (w : World) (v : Value) (vs : List Value) : Prop :=
  ∃ A c, v = .slice A vs.length c ∧ vs.length ≤ c ∧ c ≤ maxLen ∧ (A = none → c = 0) ∧ At w A vs

def SlI (κ : IntKind) (w : World) (v : Value) (xs : List Int) : Prop :=
  ∃ A c, v = .slice A xs.length c ∧ xs.length ≤ c ∧ c ≤ maxLen ∧ (A = none → c = 0) ∧ Ints κ w A xs

theorem At.nil (w : World) (A : Option Addr) : At w A [] := .inl rfl

theorem At.keep {w w' : World} {A : Option Addr} {vs : List Value} (h : At w A vs) (hs : w.heap.size ≤ w'.heap.size) (hk : ∀ p : Addr, p.block < w.heap.size → w'.cell? p = w.cell? p) : At w' A vs := by
  rcases h with h | ⟨b, off, hA, hb, hc⟩
  · exact .inl h
  · exact .inr ⟨b, off, hA, by omega, fun j v hv => (hk _ hb).trans (hc j v hv)⟩

theorem At.below {w w' : World} {A : Option Addr} {vs : List Value} (h : At w A vs) (hb : Below w.heap.size w w') : At w' A vs :=
  h.keep hb.size fun _ hp => hb.cell hp

theorem Ints.below {κ : IntKind} {w w' : World} {A : Option Addr} {xs : List Int} (h : Ints κ w A xs) (hb : Below w.heap.size w w') : Ints κ w' A xs := At.below h hb

theorem Ints.drewN {κ : IntKind} {w : World} {A : Option Addr} {xs : List Int} (h : Ints κ w A xs) (n : Nat) : Ints κ (w.drewN n) A xs := h
theorem Ints.drew {κ : IntKind} {w : World} {A : Option Addr} {xs : List Int} (h : Ints κ w A xs) : Ints κ w.drew A xs := h
/-- The cell of element k. -/
theorem Ints.get {κ : IntKind} {w : World} {A : Option Addr} {xs : List Int} (h : Ints κ w A xs) {k : Nat} (hk : k < xs.length) :
    ∃ b off, A = some ⟨b, off, none⟩ ∧ b < w.heap.size ∧ w.cell? ⟨b, off + k, none⟩ = some (.int κ (xs[k])) := by
  rcases h with h | ⟨b, off, hA, hb, hc⟩
  · have : xs = [] := by simpa using h
    subst this
    simp at hk
  · exact ⟨b, off, hA, hb, hc k _ (by simp [hk])⟩

theorem Ints.all {κ : IntKind} {w : World} {A : Option Addr} {xs : List Int} (h : Ints κ w A xs) (hne : 0 < xs.length) :
    ∃ b off, A = some ⟨b, off, none⟩ ∧ b < w.heap.size ∧ ∀ k (hk : k < xs.length), w.cell? ⟨b, off + k, none⟩ = some (.int κ (xs[k])) := by
  rcases h with h | ⟨b, off, hA, hb, hc⟩
  · have : xs = [] := by simpa using h
    subst this
    simp at hne
  · exact ⟨b, off, hA, hb, fun k hk => hc k _ (by simp [hk])⟩

theorem Ints.nil {κ : IntKind} (w : World) (A : Option Addr) : Ints κ w A [] := .inl rfl

/-- A draw turns no block. -/
theorem below_drewN' {B : Nat} {a w : World} (h : Below B a w) (n : Nat) : Below B a (w.drewN n) := ⟨h.os, h.tape, h.output, h.size, h.block⟩
/-- What the call owns reads as a list. -/
theorem sl_of_own {w : World} {base : Nat} {e : TypeId} {v : Value} {vs : List Value} (h : w.ownsRow base e 1 v vs.length vs) : Sl w v vs := by
  rcases h.2 with ⟨hv, h0⟩ | ⟨g, cap, cur, hv, hb, hg, hn, hm, hs, ht⟩
  · have : vs = [] := List.eq_nil_of_length_eq_zero h0
    subst this
    exact ⟨none, 0, hv, by simp, by simp [maxLen], fun _ => rfl, .inl rfl⟩
  · refine ⟨_, cap, hv, hn, hm, (by intro h; cases h), .inr ⟨g, 0, rfl, ?_, ?_⟩⟩
    · rcases Nat.lt_or_ge g w.heap.size with h | h
      · exact h
      · rw [Array.getElem?_eq_none h] at hg; cases hg
    · intro j u hu
      have := h.cells (g := g) (by rw [hv]; rfl) j u hu
      rw [Addr.add_lit] at this
      exact this

theorem sli_of_own {κ : IntKind} {w : World} {base : Nat} {e : TypeId} {v : Value} {xs : List Int} {n : Nat} (h : w.ownsRow base e 1 v n (xs.map (Value.int κ))) : SlI κ w v xs := by
  have hl : xs.length = n := by simpa using h.1
  subst hl
  have := sl_of_own (w := w) (base := base) (e := e) (v := v) (vs := xs.map (Value.int κ)) (by simpa using h)
  obtain ⟨A, c, hv, h1, h2, h3, h4⟩ := this
  exact ⟨A, c, by simpa using hv, by simpa using h1, h2, h3, h4⟩

/-- The world w' is w but for new blocks and the blocks of S. -/
structure Fr (S : List Nat) (w w' : World) : Prop where
  os : w'.os = w.os
  tape : w'.tape = w.tape
  output : w'.output = w.output
  size : w.heap.size ≤ w'.heap.size
  block : ∀ k, k < w.heap.size → k ∉ S → w'.heap[k]? = w.heap[k]?

theorem Fr.refl (S : List Nat) (w : World) : Fr S w w := ⟨rfl, rfl, rfl, Nat.le_refl _, fun _ _ _ => rfl⟩
theorem Fr.trans {S : List Nat} {a b c : World} (h : Fr S a b) (k : Fr S b c) : Fr S a c :=
  ⟨k.os.trans h.os, k.tape.trans h.tape, k.output.trans h.output, Nat.le_trans h.size k.size, fun i hi hn => (k.block i (Nat.lt_of_lt_of_le hi h.size) hn).trans (h.block i hi hn)⟩
theorem Fr.mono {S T : List Nat} {a b : World} (h : Fr S a b) (hs : ∀ k ∈ S, k < a.heap.size → k ∈ T) : Fr T a b :=
  ⟨h.os, h.tape, h.output, h.size, fun i hi hn => h.block i hi (fun hm => hn (hs i hm hi))⟩
theorem Fr.alloc {S : List Nat} {a b : World} (h : Fr S a b) (o : Obj) : Fr S a (b.alloc o) :=
  h.trans ⟨rfl, rfl, rfl, by simp, fun k hk _ => Below.heap_alloc _ _ _ hk⟩
theorem Fr.drew {S : List Nat} {a b : World} (h : Fr S a b) : Fr S a b.drew := ⟨h.os, h.tape, h.output, h.size, h.block⟩
theorem Fr.drewN {S : List Nat} {a b : World} (h : Fr S a b) (n : Nat) : Fr S a (b.drewN n) := ⟨h.os, h.tape, h.output, h.size, h.block⟩
theorem Fr.set {S : List Nat} {a b : World} (h : Fr S a b) (p : Addr) (hp : p.block ∈ S ∨ a.heap.size ≤ p.block) (u : Value) : Fr S a (b.setCell p u) :=
  ⟨h.os, h.tape, h.output, by simpa [World.setCell] using h.size, fun i hi hn => (Below.heap_setCell b p u i (by
    rintro rfl
    rcases hp with hp | hp
    · exact hn hp
    · omega)).trans (h.block i hi hn)⟩
theorem Fr.below {a b : World} (h : Fr [] a b) : Below a.heap.size a b := ⟨h.os, h.tape, h.output, h.size, fun k hk => h.block k hk (by simp)⟩
theorem fr_of_below {a b : World} (h : Below a.heap.size a b) (S : List Nat) : Fr S a b := ⟨h.os, h.tape, h.output, h.size, fun k hk _ => h.block k hk⟩
theorem fr_of_grown {a b : World} {row : Option Nat} (h : a.grownBy b row) {S : List Nat} (hS : ∀ k, row = some k → k < a.heap.size → k ∈ S) : Fr S a b :=
  ⟨h.os, h.tape, h.output, h.size, fun k hk hn => h.block k hk (fun e => hn (hS k e.symm hk))⟩
/-- Below B: of a frame whose blocks all lie from B on. -/
theorem Fr.belowOf {S : List Nat} {a b : World} (h : Fr S a b) {B : Nat} (hB : B ≤ a.heap.size) (hS : ∀ k ∈ S, B ≤ k) : Below B a b :=
  ⟨h.os, h.tape, h.output, h.size, fun k hk => h.block k (by omega) (fun hm => by have := hS k hm; omega)⟩

/-- Block B is one cell. -/
def One (w : World) (B : Nat) (v : Value) (t : TypeId) : Prop := w.heap[B]? = some (.cells #[v] t (0, 0))
theorem One.cell {w : World} {B : Nat} {v : Value} {t : TypeId} (h : One w B v t) : w.cell? ⟨B, 0, none⟩ = some v := by simp [World.cell?, show w.heap[B]? = _ from h]
theorem One.free {w : World} {B : Nat} {v : Value} {t : TypeId} (h : One w B v t) : w.frozen? ⟨B, 0, none⟩ = false := by simp [World.frozen?, show w.heap[B]? = _ from h]
theorem One.lt {w : World} {B : Nat} {v : Value} {t : TypeId} (h : One w B v t) : B < w.heap.size := by
  rcases Nat.lt_or_ge B w.heap.size with hlt | hge
  · exact hlt
  · have := Array.getElem?_eq_none hge; rw [show w.heap[B]? = _ from h] at this; cases this
theorem One.fr {w w' : World} {B : Nat} {v : Value} {t : TypeId} {S : List Nat} (h : One w B v t) (hf : Fr S w w') (hB : B ∉ S) : One w' B v t := (hf.block B h.lt hB).trans h
theorem One.below {w w' : World} {B C : Nat} {v : Value} {t : TypeId} (h : One w B v t) (hf : Below C w w') (hB : B < C) : One w' B v t := (hf.block B hB).trans h
theorem One.new (w : World) (v : Value) (t : TypeId) : One (w.alloc (.cells #[v] t)) w.heap.size v t := heap_alloc_new w _
theorem One.newAt (w : World) (v : Value) (t : TypeId) (B : Nat) (h : w.heap.size = B) : One (w.alloc (.cells #[v] t)) B v t := by subst h; exact heap_alloc_new w _
theorem One.alloc {w : World} {B : Nat} {v : Value} {t : TypeId} (h : One w B v t) (o : Obj) : One (w.alloc o) B v t := (Below.heap_alloc w o B h.lt).trans h
theorem One.drew {w : World} {B : Nat} {v : Value} {t : TypeId} (h : One w B v t) : One w.drew B v t := h
theorem One.drewN {w : World} {B : Nat} {v : Value} {t : TypeId} (h : One w B v t) (n : Nat) : One (w.drewN n) B v t := h
theorem One.setOther {w : World} {B : Nat} {v : Value} {t : TypeId} (h : One w B v t) (p : Addr) (u : Value) (hp : B ≠ p.block) : One (w.setCell p u) B v t := (Below.heap_setCell w p u B hp).trans h
theorem One.set {w : World} {B : Nat} {v : Value} {t : TypeId} (h : One w B v t) (u : Value) : One (w.setCell ⟨B, 0, none⟩ u) B u t := by
  unfold One World.setCell
  simp only [Array.getElem?_modify, if_true, show w.heap[B]? = _ from h]
  rfl

theorem At.fr {w w' : World} {A : Option Addr} {vs : List Value} {S : List Nat} (h : At w A vs) (hf : Fr S w w') (hS : ∀ a, A = some a → a.block ∉ S) : At w' A vs := by
  rcases h with h | ⟨b, off, hA, hb, hc⟩
  · exact .inl h
  · exact .inr ⟨b, off, hA, Nat.lt_of_lt_of_le hb hf.size, fun j v hv => (World.cell?_of_block (hf.block b hb (hS _ hA))).trans (hc j v hv)⟩

theorem _root_.Go.World.ownsRow.drewN {w : World} {base : Nat} {e : TypeId} {size : Nat} {v : Value} {n : Nat} {xs : List Value} (h : w.ownsRow base e size v n xs) (k : Nat) : (w.drewN k).ownsRow base e size v n xs := h
theorem _root_.Go.RowKit.Below.drewN {B : Nat} {a w : World} (h : Below B a w) (n : Nat) : Below B a (w.drewN n) := ⟨h.os, h.tape, h.output, h.size, h.block⟩

/-- The slice value v, of n numbers xs, is a row of the call's own (blocks from base on). -/
def Own (e : TypeId) (κ : IntKind) (w : World) (base : Nat) (v : Value) (n : Nat) (xs : List Int) : Prop := w.ownsRow base e 1 v n (xs.map (Value.int κ))
section
variable {e : TypeId} {κ : IntKind} {w : World} {base n : Nat} {v : Value} {xs : List Int}
theorem Own.out (h : Own e κ w base v n xs) : w.ownsRow base e 1 v n (xs.map (Value.int κ)) := h
theorem Own.nil (w : World) (base : Nat) : Own e κ w base (.slice none 0 0) 0 [] := World.ownsRow_nil _ _ _ _
theorem Own.len (h : Own e κ w base v n xs) : xs.length = n := by simpa using h.1
theorem Own.alloc (h : Own e κ w base v n xs) (o : Obj) : Own e κ (w.alloc o) base v n xs := World.ownsRow.alloc h o
theorem Own.drew (h : Own e κ w base v n xs) : Own e κ w.drew base v n xs := h
theorem Own.drewN (h : Own e κ w base v n xs) (k : Nat) : Own e κ (w.drewN k) base v n xs := h
theorem Own.lt (h : Own e κ w base v n xs) : ∀ k, v.ownBlock = some k → base ≤ k ∧ k < w.heap.size := World.ownsRow.lt h
theorem Own.sli (h : Own e κ w base v n xs) : SlI κ w v xs := sli_of_own h
theorem Own.mono (h : Own e κ w base v n xs) {B : Nat} (hB : B ≤ base) : Own e κ w B v n xs := by
  refine ⟨h.1, ?_⟩
  rcases h.2 with h' | ⟨g, cap, cur, h1, h2, h3⟩
  · exact .inl h'
  · exact .inr ⟨g, cap, cur, h1, by omega, h3⟩
/-- Kept by whatever leaves its own block. -/
theorem Own.keep {w' : World} (h : Own e κ w base v n xs) (hk : ∀ k, v.ownBlock = some k → w'.heap[k]? = w.heap[k]?) : Own e κ w' base v n xs := by
  refine ⟨h.1, ?_⟩
  rcases h.2 with h' | ⟨g, cap, cur, h1, h2, h3, h4⟩
  · exact .inl h'
  · exact .inr ⟨g, cap, cur, h1, h2, (hk g (by rw [h1]; rfl)).trans h3, h4⟩
theorem Own.below {w' : World} (h : Own e κ w base v n xs) (hb : Below w.heap.size w w') : Own e κ w' base v n xs := h.keep fun k hk => hb.block k (h.lt k hk).2
theorem Own.fr {w' : World} {S : List Nat} (h : Own e κ w base v n xs) (hb : Fr S w w') (hS : ∀ k, v.ownBlock = some k → k ∉ S) : Own e κ w' base v n xs := h.keep fun k hk => hb.block k (h.lt k hk).2 (hS k hk)
end
section
variable {e : TypeId} {κ : IntKind} {w : World} {base n g cap : Nat} {xs : List Int}
theorem Own.cell (h : Own e κ w base (.slice (some ⟨g, 0, none⟩) n cap) n xs) {k : Nat} (hk : k < n) : ∃ y, w.cell? ⟨g, k, none⟩ = some (.int κ y) := by
  have hl : xs.length = n := by simpa using h.1
  refine ⟨xs[k]'(by omega), ?_⟩
  rw [World.ownsRow.cellAt h k (by omega)]
  simp [show k < xs.length by omega]
theorem Own.get (h : Own e κ w base (.slice (some ⟨g, 0, none⟩) n cap) n xs) {k : Nat} (hk : k < xs.length) : w.cell? ⟨g, k, none⟩ = some (.int κ (xs[k])) := by
  have hl : xs.length = n := by simpa using h.1
  rw [World.ownsRow.cellAt h k (by omega)]
  simp [show k < xs.length by omega]
theorem Own.frozen (h : Own e κ w base (.slice (some ⟨g, 0, none⟩) n cap) n xs) (k : Nat) : w.frozen? ⟨g, k, none⟩ = false := World.ownsRow.frozenAt h k
theorem Own.set (h : Own e κ w base (.slice (some ⟨g, 0, none⟩) n cap) n xs) (k : Nat) (y : Int) :
    Own e κ (w.setCell ⟨g, k, none⟩ (.int κ y)) base (.slice (some ⟨g, 0, none⟩) n cap) n (xs.set k y) := by
  have := (World.ownsRow.stored h k (.int κ y)).1
  rwa [← List.map_set] at this
theorem Own.ints {A : Option Addr} {m c : Nat} (h : Own e κ w base (.slice A m c) n xs) : Ints κ w A xs := by
  obtain ⟨A', c', hv, _, _, _, hA⟩ := h.sli
  cases hv
  exact hA
/-- What a value looks like that owns at least one number. -/
theorem Own.form {v : Value} (h : Own e κ w base v n xs) (hn : 0 < n) : ∃ g cap, v = .slice (some ⟨g, 0, none⟩) n cap ∧ base ≤ g ∧ g < w.heap.size := World.ownsRow.form h hn
end

end Go.Proofs.YtbkgbkmpalbdpaaGreatDoor
