/- Texts Vl Vm in one. -/
import Derived.Test.YtklngjjokbhfpaaGreatDoorVj
import Derived.Test.YtklngjjokbhfpaaGreatDoorPkV
import Derived.Test.YtklngjjokbhfpaaGreatDoorRg
import Derived.Test.YtklngjjokbhfpaaGreatDoorVc
import Derived.Test.YtklngjjokbhfpaaGreatDoorPkVf
import Derived.Test.YtklngjjokbhfpaaGreatDoorVk
import Derived.Test.YtklngjjokbhfpaaGreatDoorPkT
import Derived.Test.YtklngjjokbhfpaaGreatDoorPkRh
namespace Go.Proofs.YtklngjjokbhfpaaGreatDoor
open Go.RowKit

abbrev Tr := List Int × List Int

/-- One list of wheels but the last, for some pinions. -/
def exStep2 (wl wh whole : Int) (pins : List Int) (best : Option Tr) (l : List Int) : Option Tr :=
  if whole % prodL l = 0 ∧ wl ≤ whole / prodL l ∧ whole / prodL l ≤ wh then
    match best with
    | none => some ((isortL (l ++ [whole / prodL l])).reverse, pins)
    | some b => if betterM (isortL (l ++ [whole / prodL l])).reverse pins b.1 b.2 < 0 then some ((isortL (l ++ [whole / prodL l])).reverse, pins) else best
  else best
/-- One list of pinions. -/
def exStep1 (num den wl wh : Int) (kw count : Nat) (best : Option Tr) (pins : List Int) : Option Tr :=
  if prodL pins % den = 0 ∧ num ≤ 8000000 then (LN (count - 1) wl (kw + 1)).foldl (exStep2 wl wh (prodL pins / den * num) pins) best else best
def exCount (num den wl wh pl : Int) (kw kp count : Nat) : Option Tr := (LN count pl (kp + 1)).foldl (exStep1 num den wl wh kw count) none
/-- The counts from c on, n of them. -/
def exFrom (num den wl wh pl : Int) (kw kp : Nat) : Nat → Nat → Option Tr
  | 0, _ => none
  | n + 1, c => match exCount num den wl wh pl kw kp c with
    | none => exFrom num den wl wh pl kw kp n (c + 1)
    | some t => some t
/-- What Exact finds. -/
def exactM (num den wl wh pl ph st : Int) : Option Tr := exFrom num den wl wh pl (wh - wl).toNat (ph - pl).toNat st.toNat 1

set_option maxRecDepth 100000 in
theorem exact_lives : exactM 60 1 60 80 6 10 2 = some ([60, 60], [6, 10]) := by decide +kernel

end Go.Proofs.YtklngjjokbhfpaaGreatDoor

namespace Go.Proofs.YtklngjjokbhfpaaGreatDoor
open Go.RowKit Go.Shelf

theorem heap_new3_0 (w : World) (o1 o2 o3 : Obj) : (((w.alloc o1).alloc o2).alloc o3).heap[w.heap.size]? = some o1 :=
  (((Below.refl (w.heap.size + 1) (w.alloc o1)).alloc (by simp) o2).alloc (by simp) o3).block _ (by omega) |>.trans (heap_alloc_new w o1)
theorem heap_new3_1 (w : World) (o1 o2 o3 : Obj) : (((w.alloc o1).alloc o2).alloc o3).heap[w.heap.size + 1]? = some o2 := by
  refine ((Below.refl (w.heap.size + 2) ((w.alloc o1).alloc o2)).alloc (by simp) o3).block _ (by omega) |>.trans ?_
  have := heap_alloc_new (w.alloc o1) o2
  simpa using this
theorem keepBlocks {F : Fence} {n : Nat} {P : Program} {fn : Func} {tmps : Array Value} {R : Ending → World → Prop} : ∀ (ds : List Nat) (W : World), (∀ D ∈ ds, W.heap[D]? = some (.deferred (some []))) → ds.Nodup →
    (∀ W', Fr ds W W' → LeavesIn F n P fn tmps R [] .returning W') → LeavesInM F n P fn tmps R (ds.map fun D => { target := .collected D, args := #[] }) .returning W
  | [], W, _, _, h => h W (Fr.refl _ _)
  | D :: ds, W, hd, hn, h => by
    refine ⟨by simp, .inl ⟨D, _, rfl, run_takeDeferred (hd D (by simp)), ?_⟩⟩
    have hf := fr_putObj W D (.deferred none)
    refine keepBlocks ds _ (fun E hE => ?_) (List.nodup_cons.1 hn).2 (fun W' hf' => h W' ((hf.mono fun k hk _ => by simp at hk; simp [hk]).trans (hf'.mono fun k hk _ => List.mem_cons_of_mem _ hk)))
    have hne : E ≠ D := fun e => (List.nodup_cons.1 hn).1 (e ▸ hE)
    exact (World.putObj_heap_other hne).trans (hd E (List.mem_cons_of_mem _ hE))

/-- A frame, seen from before. -/
theorem Fr.after {S T : List Nat} {a b c : World} (h : Fr S a b) (k : Fr T b c) (hT : ∀ i ∈ T, a.heap.size ≤ i) : Fr S a c :=
  ⟨k.os.trans h.os, k.tape.trans h.tape, k.output.trans h.output, Nat.le_trans h.size k.size, fun i hi hn => (k.block i (Nat.lt_of_lt_of_le hi h.size) (fun hm => by have := hT i hm; omega)).trans (h.block i hi hn)⟩
theorem IterR.inRound {α : Type} {F : Fence} {n : Nat} {P : Program} {g : Nat} {lb : Array Value} {C : List Nat} {Rd : List Nat → α → Value → World → Prop} {all : List α} {w0 : World} (l : Nat) (h : IterR F n P g lb C Rd all w0) : IterR (F.inRound l) n P g lb C Rd all w0 := h
theorem RdL.fr {bs : List Nat} {x : List Int} {v : Value} {w w' : World} {S : List Nat} (h : RdL bs x v w) (hf : Fr S w w') (hS : ∀ b ∈ bs, b ∉ S) : RdL bs x v w' := by
  obtain ⟨h1, A, c, h2, h3, h4, h5, h6, h7⟩ := h
  refine ⟨fun b hb => Nat.lt_of_lt_of_le (h1 b hb) hf.size, A, c, h2, h3, h4, h5, ?_, h7⟩
  rcases h7 with rfl | ⟨g, hg, o, rfl⟩
  · exact Ints.nil _ _
  · exact h6.keepBlock rfl (hf.block g (h1 g hg) (hS g hg)) hf.size
theorem RdL.len {bs : List Nat} {x : List Int} {v : Value} {w : World} (h : RdL bs x v w) {n : Nat} (hn : x.length = n) : ∃ A c, v = .slice A n c ∧ n ≤ c ∧ c ≤ maxLen ∧ (A = none → c = 0) ∧ Ints .i64 w A x ∧ (x = [] ∨ ∃ g ∈ bs, ∃ o, A = some ⟨g, o, none⟩) := by
  subst hn
  exact h.2

theorem Ints.fr2 {κ : IntKind} {w w' : World} {A : Option Addr} {x : List Int} (h : Ints κ w A x) (hf : Fr [] w w') (hA : x = [] ∨ ∃ b o, A = some ⟨b, o, none⟩ ∧ b < w.heap.size) : Ints κ w' A x := by
  rcases hA with rfl | ⟨b, o, rfl, hb⟩
  · exact Ints.nil _ _
  · exact h.keepBlock rfl (hf.block b hb (by simp)) hf.size

/-- The best train so far, in block Bb; its rows lie from base on, beside T. -/
def BestAt (W : World) (base Bb : Nat) (T : List Nat) : Option Tr → Prop
  | none => W.heap[Bb]? = some (.cells #[.slice none 0 0, .slice none 0 0] 48 (0, 0))
  | some t => ∃ g1 c1 g2 c2 n1 n2, W.heap[Bb]? = some (.cells #[.slice (some ⟨g1, 0, none⟩) n1 c1, .slice (some ⟨g2, 0, none⟩) n2 c2] 48 (0, 0)) ∧
      Own 3 .i64 W base (.slice (some ⟨g1, 0, none⟩) n1 c1) n1 t.1 ∧ Own 3 .i64 W base (.slice (some ⟨g2, 0, none⟩) n2 c2) n2 t.2 ∧ g1 ∉ T ∧ g2 ∉ T ∧ n1 ≤ 12 ∧ n2 ≤ 12 ∧ ∀ x ∈ t.1 ++ t.2, 1 ≤ x ∧ x ≤ 200
theorem BestAt.fr {W W' : World} {base Bb : Nat} {T S : List Nat} {o : Option Tr} (h : BestAt W base Bb T o) (hf : Fr S W W') (hB : Bb ∉ S) (hS : ∀ k ∈ S, k < W.heap.size → k ∈ T) : BestAt W' base Bb T o := by
  cases o with
  | none =>
    have hl : Bb < W.heap.size := (Array.getElem?_eq_some_iff.1 (show W.heap[Bb]? = some _ from h)).1
    exact (hf.block Bb hl hB).trans h
  | some t =>
    obtain ⟨g1, c1, g2, c2, n1, n2, h1, h2, h3, h4, h5, h6⟩ := h
    have hl : Bb < W.heap.size := (Array.getElem?_eq_some_iff.1 h1).1
    exact ⟨g1, c1, g2, c2, n1, n2, (hf.block Bb hl hB).trans h1, h2.fr hf (fun k hk hm => by cases hk; exact h4 (hS _ hm (h2.lt _ rfl).2)), h3.fr hf (fun k hk hm => by cases hk; exact h5 (hS _ hm (h3.lt _ rfl).2)), h4, h5, h6⟩
theorem BestAt.more {W : World} {base Bb : Nat} {T T' : List Nat} {o : Option Tr} (h : BestAt W base Bb T o) (hT : ∀ k ∈ T', k < W.heap.size → base ≤ k → k ∈ T) : BestAt W base Bb T' o := by
  cases o with
  | none => exact h
  | some t =>
    obtain ⟨g1, c1, g2, c2, n1, n2, h1, h2, h3, h4, h5, h6⟩ := h
    exact ⟨g1, c1, g2, c2, n1, n2, h1, h2, h3, fun h => h4 (hT _ h (h2.lt _ rfl).2 (h2.lt _ rfl).1), fun h => h5 (hT _ h (h3.lt _ rfl).2 (h3.lt _ rfl).1), h6⟩

/-- What Exact answers. -/
def RetX (o : Option Tr) (w : World) (e : Ending) (w' : World) : Prop :=
  Below w.heap.size w w' ∧ match o with
  | none => e = .returned (.tuple #[.agg #[.slice none 0 0, .slice none 0 0], .int .i64 6])
  | some t => ∃ g1 c1 g2 c2 n1 n2, e = .returned (.tuple #[.agg #[.slice (some ⟨g1, 0, none⟩) n1 c1, .slice (some ⟨g2, 0, none⟩) n2 c2], .int .i64 0]) ∧
      Own 3 .i64 w' w.heap.size (.slice (some ⟨g1, 0, none⟩) n1 c1) n1 t.1 ∧ Own 3 .i64 w' w.heap.size (.slice (some ⟨g2, 0, none⟩) n2 c2) n2 t.2

/-- Plain facts on the lists. -/
theorem LN_range {n : Nat} {lo : Int} {k : Nat} {x : List Int} (h : x ∈ LN n lo (k + 1)) (hlo : 1 ≤ lo) (hk : lo + k ≤ 200) : x.length = n ∧ ∀ v ∈ x, 1 ≤ v ∧ v ≤ 200 := by
  obtain ⟨h1, _, h2⟩ := (LN_mem n lo (k + 1) x).1 h
  exact ⟨h1, fun v hv => by have := h2 v hv; omega⟩
theorem mem_insL {x y : Int} {p : List Int} : y ∈ insL x p ↔ y = x ∨ y ∈ p := by
  unfold insL
  have := List.take_append_drop (posL x p p.length) p
  constructor
  · intro h
    simp only [List.mem_append, List.mem_cons] at h
    rcases h with h | h | h
    · exact .inr (List.mem_of_mem_take h)
    · exact .inl h
    · exact .inr (List.mem_of_mem_drop h)
  · intro h
    simp only [List.mem_append, List.mem_cons]
    rcases h with h | h
    · exact .inr (.inl h)
    · rw [← this] at h
      simp only [List.mem_append] at h
      rcases h with h | h
      · exact .inl h
      · exact .inr (.inr h)
theorem mem_isortL {y : Int} : ∀ {l : List Int}, y ∈ isortL l ↔ y ∈ l := by
  have key : ∀ (l p : List Int), y ∈ l.foldl (fun p x => insL x p) p ↔ y ∈ l ∨ y ∈ p := by
    intro l
    induction l with
    | nil => intro p; simp
    | cons x l ih =>
      intro p
      rw [List.foldl_cons, ih, mem_insL]
      simp only [List.mem_cons]
      constructor
      · rintro (h | h | h)
        · exact .inl (.inr h)
        · exact .inl (.inl h)
        · exact .inr h
      · rintro ((h | h) | h)
        · exact .inr (.inl h)
        · exact .inl h
        · exact .inr (.inr h)
  intro l
  have := key l []
  simpa [isortL] using this

end Go.Proofs.YtklngjjokbhfpaaGreatDoor
