/- (The rounds are handed any number of values.) Own law of a range over a function whose iterator may keep rows of its own (blocks bs), and whose rounds never leave the loop. No program in sight. -/
import Derived.RangeFuncNested
import Derived.RangeFuncBound
import Derived.RangeFuncCalls
import Derived.Test.YtbkgbkmpalbdpaaGreatDoorW
namespace Go.Proofs.YtbkgbkmpalbdpaaGreatDoor
open Go.RowKit

variable {F : Fence} {n : Nat} {P : Program}

theorem fr_putObj (W : World) (l : Nat) (o : Obj) : Fr [l] W (W.putObj l o) :=
  ⟨rfl, rfl, rfl, by simp, fun k _ hk => World.putObj_heap_other (fun e => hk (by simp [e]))⟩

/-- The blocks of C lie as they lay; nothing is taken away. -/
structure Keep (C : List Nat) (w w' : World) : Prop where
  os : w'.os = w.os
  tape : w'.tape = w.tape
  output : w'.output = w.output
  size : w.heap.size ≤ w'.heap.size
  block : ∀ k ∈ C, k < w.heap.size → w'.heap[k]? = w.heap[k]?
theorem Fr.keep {S C : List Nat} {w w' : World} (h : Fr S w w') (hC : ∀ k ∈ C, k ∉ S) : Keep C w w' := ⟨h.os, h.tape, h.output, h.size, fun k hk hl => h.block k hl (hC k hk)⟩
theorem Keep.mono {C D : List Nat} {w w' : World} (h : Keep C w w') (hD : ∀ k ∈ D, k ∈ C) : Keep D w w' := ⟨h.os, h.tape, h.output, h.size, fun k hk => h.block k (hD k hk)⟩
theorem Keep.trans {C : List Nat} {a b c : World} (h : Keep C a b) (k : Keep C b c) : Keep C a c :=
  ⟨k.os.trans h.os, k.tape.trans h.tape, k.output.trans h.output, Nat.le_trans h.size k.size, fun i hi hl => (k.block i hi (Nat.lt_of_lt_of_le hl h.size)).trans (h.block i hi hl)⟩
theorem Keep.refl (C : List Nat) (w : World) : Keep C w w := ⟨rfl, rfl, rfl, Nat.le_refl _, fun _ _ _ => rfl⟩
theorem Below.keep {B : Nat} {C : List Nat} {w w' : World} (h : Below B w w') (hC : ∀ k ∈ C, k < B) : Keep C w w' := ⟨h.os, h.tape, h.output, h.size, fun k hk _ => h.block k (hC k hk)⟩

/-- The iterator's contract: it may lay rows of its own (the blocks bs), hands x's value v at each round, and a round leaves those blocks and those of C. -/
def IterR {α : Type} (F : Fence) (n : Nat) (P : Program) (g : Nat) (lb : Array Value) (C : List Nat) (Rd : List Nat → α → Array Value → World → Prop) (all : List α) (w0 : World) : Prop :=
  ∀ (l : Nat) (W0 : World) (J : List Nat → List α → World → Prop), Below w0.heap.size w0 W0 → w0.heap.size ≤ l → l < W0.heap.size →
    (∀ bs pre W W', J bs pre W → (∀ b ∈ bs, W0.heap.size ≤ b) → Fr bs W W' → J bs pre W') →
    (∀ bs W', (∀ b ∈ bs, W0.heap.size ≤ b) → Fr [] W0 W' → J bs [] W') →
    (∀ bs pre x post v W1, all = pre ++ x :: post → (∀ b ∈ bs, W0.heap.size ≤ b) → J bs pre W1 → Rd bs x v W1 → YieldAt F (n - 1) P l v W1 fun e W' => e = .returned (.bool true) ∧ J bs (pre ++ [x]) W' ∧ Keep (bs ++ C) W1 W') →
    CallsIn F n P g (#[.func (.yield l) #[] #[]] ++ lb) W0 fun e W' => (∃ v, e = .returned v) ∧ ∃ bs, (∀ b ∈ bs, W0.heap.size ≤ b) ∧ J bs all W'

/-- How a round is left: by its end. -/
def roundR {α : Type} (C : List Nat) (J : List Nat → List α → World → Prop) (T : List Nat) (xs : List α) (W : World) : Exit → Act → World → Prop
  | .normal, _, W' => Keep (T ++ C) W W' ∧ J T xs W'
  | .ret, _, _ => False
  | .exit _, _, _ => False
  | .goto _, _, _ => False
  | .panic _, _, _ => False
  | .outgrown, _, _ => False

theorem range_step {α : Type} {ps : Array Tmp} {assign body : Code} {a : Act} {w : World} {all : List α} {C T0 : List Nat} {Rd : List Nat → α → Array Value → World → Prop}
    (J : List Nat → List α → World → Prop) (Ax : Nat → List Nat → α → Array Value → Act → World → Prop)
    (hJ : ∀ T xs W W', (∀ k ∈ T, w.heap.size ≤ k) → J T xs W → Fr T W W' → J T xs W')
    (hAx : ∀ l bs x v a' W W', Ax l bs x v a' W → Fr [l] W W' → Ax l bs x v a' W')
    (hassign : ∀ l bs pre x v W, w.heap.size ≤ l → (∀ b ∈ bs, w.heap.size ≤ b) → l ∉ bs → l < W.heap.size → J (T0 ++ l :: bs) pre W → Rd bs x v W →
      assign.wpIn (F.inRound l) n P (Exit.then (fun a' W' => Keep ((T0 ++ l :: bs) ++ C) W W' ∧ J (T0 ++ l :: bs) pre W' ∧ Ax l bs x v a' W') (fun _ _ _ => False)) { tmps := (ps.zip v).foldl (fun t (p, v) => t.setIfInBounds p v) a.tmps, defers := [] } W)
    (hbody : ∀ l bs pre x post v a' W, all = pre ++ x :: post → w.heap.size ≤ l → (∀ b ∈ bs, w.heap.size ≤ b) → l ∉ bs → l < W.heap.size → (∃ r, W.heap[l]? = some (.loop r)) → J (T0 ++ l :: bs) pre W → Ax l bs x v a' W → body.wpIn (F.inRound l) n P (roundR C J (T0 ++ l :: bs) (pre ++ [x]) W) a' W)
    (hC : ∀ k ∈ C, k < w.heap.size) (hT0 : ∀ k ∈ T0, w.heap.size ≤ k) (hps : ∀ bs x v W, Rd bs x v W → v.size = ps.size)
    (fn : FuncId) (hfn : F.fn fn) (rec : LoopState → Option Code → Loop) (df : Nat) (hrec : rec = fun st pe => { state := st, pending := pe, fn, tmps := a.tmps, params := ps, assign, body, defers := df })
    (l : Nat) (bs : List Nat) (pre : List α) (x : α) (post : List α) (v : Array Value) (W : World) (hall : all = pre ++ x :: post) (hlB : w.heap.size ≤ l) (hbB : ∀ b ∈ bs, w.heap.size ≤ b) (hne : l ∉ bs) (hl0 : l ∉ T0) (hl : W.heap[l]? = some (.loop (rec .ready none)))
    (hi : J (T0 ++ l :: bs) pre W) (hRd : Rd bs x v W) :
    YieldAt F n P l v W fun e W' => e = .returned (.bool true) ∧ (J (T0 ++ l :: bs) (pre ++ [x]) W' ∧ W'.heap[l]? = some (.loop (rec .ready none))) ∧ Keep ((T0 ++ bs) ++ C) W W' := by
  have hlt : l < W.heap.size := (Array.getElem?_eq_some_iff.1 hl).1
  have hy := run_yield (P := P) (args := v) hl (by rw [hrec]; exact hps _ _ _ _ hRd)
  rw [hrec] at hy
  refine ⟨fn, _, assign, body, hy, roundIn_of_wpIn hfn (wpIn_mono (hassign l bs pre x v W hlB hbB hne hlt hi hRd) ?_)⟩
  clear hy
  have hlC : l ∉ C := fun h => by have := hC l h; omega
  have hlin : l ∈ (T0 ++ l :: bs) ++ C := by simp
  rintro e a' Wa hq
  cases e with
  | normal =>
    obtain ⟨hfa, hia, hax⟩ := hq
    have hla := (hfa.block l hlin hlt).trans hl
    have hlta : l < Wa.heap.size := (Array.getElem?_eq_some_iff.1 hla).1
    refine ⟨_, run_beginRound hla (by rw [hrec]), ?_⟩
    have hl2 : (Wa.putObj l (.loop { rec .ready none with state := .busy })).heap[l]? = some (.loop { rec .ready none with state := .busy }) := World.putObj_heap_same hlta
    have hT : ∀ k ∈ T0 ++ (l :: bs), w.heap.size ≤ k := fun k hk => by
      simp at hk
      rcases hk with h | rfl | h
      · exact hT0 k h
      · exact hlB
      · exact hbB k h
    have h12 : ∀ W : World, ∀ k ∈ [l], k < W.heap.size → k ∈ T0 ++ (l :: bs) := fun W k hk _ => by simp at hk; subst hk; simp
    have hfa2 := fr_putObj Wa l (.loop { rec .ready none with state := .busy })
    refine wpIn_mono (hbody l bs pre x post v a' _ hall hlB hbB hne (by simpa using hlta) ⟨_, hl2⟩ (hJ _ _ _ _ hT hia (hfa2.mono (h12 Wa))) (hAx l bs x v a' _ _ hax hfa2)) ?_
    rintro e a3 W3 hp
    cases e with
    | normal =>
      obtain ⟨hf3, hi3⟩ := hp
      have hl3 := (hf3.block l hlin (by simpa using hlta)).trans hl2
      have hlt3 : l < W3.heap.size := (Array.getElem?_eq_some_iff.1 hl3).1
      have hr := run_endRound (P := P) none hl3
      have e0 : ({ { rec .ready none with state := .busy } with state := .ready, pending := none } : Loop) = rec .ready none := by rw [hrec]
      simp only [Option.isNone_none, if_true] at hr
      rw [e0] at hr
      refine ⟨_, _, hr, rfl, ⟨hJ _ _ _ _ hT hi3 ((fr_putObj W3 l _).mono (h12 W3)), World.putObj_heap_same hlt3⟩, ?_⟩
      have hno : ∀ k ∈ (T0 ++ bs) ++ C, k ∉ [l] := fun k hk h => by
        simp at h hk
        subst h
        rcases hk with h | h | h
        · exact hl0 h
        · exact hne h
        · exact hlC h
      have hin : ∀ k ∈ (T0 ++ bs) ++ C, k ∈ (T0 ++ l :: bs) ++ C := fun k hk => by
        simp at hk ⊢
        rcases hk with h | h | h
        · exact .inl h
        · exact .inr (.inr (.inl h))
        · exact .inr (.inr (.inr h))
      exact ((hfa.mono hin).trans (hfa2.keep hno)).trans ((hf3.mono hin).trans ((fr_putObj W3 l _).keep hno))
    | ret => exact hp.elim
    | exit id => exact hp.elim
    | goto t => exact hp.elim
    | panic ch => exact hp.elim
    | outgrown => exact hp.elim
  | ret => exact hq.elim
  | exit id => exact hq.elim
  | goto t => exact hq.elim
  | panic ch => exact hq.elim
  | outgrown => exact hq.elim

/-- The statement, not within a round. -/
theorem wpIn_range_outer {α : Type} {g : Operand} {ps : Array Tmp} {assign body : Code} {Q : Exit → Act → World → Prop} {a : Act} {w : World}
    (hro : F.round = none) (h1 : 1 ≤ n) {gf : Nat} {lb : Array Value} (hg : a.eval g = .func (.func gf) #[] lb) (hFg : F.fn gf) (eg : ∀ args w, (callFunc gf args).run P w = .ok (.enter gf args) w)
    {C : List Nat} {Rd : List Nat → α → Array Value → World → Prop} {all : List α} (hseq : IterR F (n - 1) P gf lb C Rd all w)
    (J : List Nat → List α → World → Prop) (Ax : Nat → List Nat → α → Array Value → Act → World → Prop)
    (hJ : ∀ T xs W W', (∀ k ∈ T, w.heap.size ≤ k) → J T xs W → Fr T W W' → J T xs W')
    (h0 : ∀ T W', (∀ k ∈ T, w.heap.size ≤ k) → Fr [] w W' → J T [] W')
    (hAx : ∀ l bs x v a' W W', Ax l bs x v a' W → Fr [l] W W' → Ax l bs x v a' W')
    (hassign : ∀ l bs pre x v W, w.heap.size ≤ l → (∀ b ∈ bs, w.heap.size ≤ b) → l ∉ bs → l < W.heap.size → J (w.heap.size :: l :: bs) pre W → Rd bs x v W →
      assign.wpIn (F.inRound l) (n - 1 - 1) P (Exit.then (fun a' W' => Keep ((w.heap.size :: l :: bs) ++ C) W W' ∧ J (w.heap.size :: l :: bs) pre W' ∧ Ax l bs x v a' W') (fun _ _ _ => False)) { tmps := (ps.zip v).foldl (fun t (p, v) => t.setIfInBounds p v) a.tmps, defers := [] } W)
    (hbody : ∀ l bs pre x post v a' W, all = pre ++ x :: post → w.heap.size ≤ l → (∀ b ∈ bs, w.heap.size ≤ b) → l ∉ bs → l < W.heap.size → (∃ r, W.heap[l]? = some (.loop r)) → J (w.heap.size :: l :: bs) pre W → Ax l bs x v a' W → body.wpIn (F.inRound l) (n - 1 - 1) P (roundR C J (w.heap.size :: l :: bs) (pre ++ [x]) W) a' W)
    (hC : ∀ k ∈ C, k < w.heap.size) (hps : ∀ bs x v W, Rd bs x v W → v.size = ps.size)
    (hdone : ∀ (D l : Nat) (bs : List Nat) (W : World), w.heap.size ≤ D → w.heap.size ≤ l → (∀ b ∈ bs, w.heap.size ≤ b) → J (D :: l :: bs) all W → W.heap[D]? = some (.deferred (some [])) → Q .normal { a with defers := { target := .collected D, args := #[] } :: a.defers } W) :
    (Code.rangeFunc g ps assign body).wpIn F n P Q a w := by
  refine wpIn_rangeFunc ?_
  intro fn hfn
  rw [hro]
  obtain ⟨rec, hrec⟩ : ∃ rec : LoopState → Option Code → Loop, rec = fun st pe => { state := st, pending := pe, fn, tmps := a.tmps, params := ps, assign, body, defers := w.heap.size } := ⟨_, rfl⟩
  obtain ⟨W1, hW1⟩ : ∃ W1, (w.alloc (.deferred (some []))).alloc (.loop (rec .ready none)) = W1 := ⟨_, rfl⟩
  have hs1 : W1.heap.size = w.heap.size + 1 + 1 := by rw [← hW1]; simp
  have hL1 : W1.heap[w.heap.size + 1]? = some (.loop (rec .ready none)) := by
    rw [← hW1]; have := World.alloc_heap_new (w.alloc (.deferred (some []))) (.loop (rec .ready none)); rwa [World.size_alloc] at this
  have hK1 : W1.heap[w.heap.size]? = some (.deferred (some [])) := by
    rw [← hW1]; exact (Below.heap_alloc _ _ _ (by simp)).trans (World.alloc_heap_new w _)
  have hf1 : Fr [] w W1 := by rw [← hW1]; exact ((Fr.refl [] w).alloc _).alloc _
  refine ⟨w.heap.size + 1, [{ target := .collected w.heap.size, args := #[] }], W1, { target := .fn (.func gf) lb, args := #[.func (.yield (w.heap.size + 1)) #[] #[]] }, W1, gf,
    #[.func (.yield (w.heap.size + 1)) #[] #[]] ++ lb, W1, ?_, ?_, ?_, ?_, fun _ => h1, ?_⟩
  · rw [← hW1, hrec]; exact run_enterLoop_outer _ _ _ _ _
  · simp only [resolve, hg]
    simp [go_sem]
  · intro f' hf'; simp [Target.leads] at hf'; subst hf'; exact hFg
  · simp [invoke, go_sem, eg]
  · have hT : ∀ bs : List Nat, (∀ b ∈ bs, w.heap.size + 1 < b) → ∀ k ∈ w.heap.size :: (w.heap.size + 1) :: bs, w.heap.size ≤ k := fun bs h k hk => by
      simp at hk
      rcases hk with rfl | rfl | hk
      · omega
      · omega
      · have := h k hk; omega
    refine (hseq (w.heap.size + 1) W1
      (fun bs pre W => (∀ b ∈ bs, w.heap.size + 1 < b) ∧ J (w.heap.size :: (w.heap.size + 1) :: bs) pre W ∧ W.heap[w.heap.size + 1]? = some (.loop (rec .ready none)) ∧ W.heap[w.heap.size]? = some (.deferred (some [])))
      hf1.below (by omega) (by omega) ?_ ?_ ?_).mono ?_
    · rintro bs pre W W' ⟨hb0, hi, hl, hk⟩ hb hf
      have hbl : ∀ k, k < W1.heap.size → k ∉ bs := fun k hk h => by have := hb k h; omega
      exact ⟨hb0, hJ _ _ _ _ (hT bs hb0) hi (hf.mono fun k hk _ => by simp [hk]),
        (hf.block _ (Array.getElem?_eq_some_iff.1 hl).1 (hbl _ (by omega))).trans hl, (hf.block _ (Array.getElem?_eq_some_iff.1 hk).1 (hbl _ (by omega))).trans hk⟩
    · intro bs W' hb hf
      have hb0 : ∀ b ∈ bs, w.heap.size + 1 < b := fun b h => by have := hb b h; omega
      exact ⟨hb0, h0 _ _ (hT bs hb0) (hf1.trans hf), (hf.block _ (by omega) (by simp)).trans hL1, (hf.block _ (by omega) (by simp)).trans hK1⟩
    · rintro bs pre x post v W hall hb ⟨hb0, hi, hl, hk⟩ hRd
      obtain ⟨fn', tmps, as', bd', hy, hR⟩ := range_step (w := w) (T0 := [w.heap.size]) J Ax hJ hAx hassign hbody hC (fun k hk => by simp at hk; omega) hps fn hfn rec w.heap.size hrec (w.heap.size + 1) bs pre x post v W hall (by omega)
        (fun b h => by have := hb0 b h; omega) (fun h => by have := hb0 _ h; omega) (by simp) hl hi hRd
      refine ⟨fn', tmps, as', bd', hy, hR.mono ?_⟩
      rintro e W' ⟨he, ⟨hj, hl'⟩, hf⟩
      exact ⟨he, ⟨hb0, hj, hl', (hf.block _ (by simp) (Array.getElem?_eq_some_iff.1 hk).1).trans hk⟩, hf.mono fun k hk => by simp at hk ⊢; exact .inr hk⟩
    · rintro e W2 ⟨⟨v, rfl⟩, bs, hb, hb0, hi, hl, hk⟩
      exact ⟨none, _, by have := run_endLoop (P := P) hl (by rw [hrec]; simp); rw [hrec] at this; exact this,
        hdone _ (w.heap.size + 1) bs _ (Nat.le_refl _) (by omega) (fun b h => by have := hb0 b h; omega) (hJ _ _ _ _ (hT bs hb0) hi ((fr_putObj W2 _ _).mono fun k hk _ => by simp at hk; subst hk; simp)) ((World.putObj_heap_other (by omega)).trans hk)⟩

end Go.Proofs.YtbkgbkmpalbdpaaGreatDoor
