/- A region that draws: some operations are taken first; behind them the ways are walked one by one. No program in sight. -/
import Derived.Test.YtklngjjokbhfpaaRh
namespace Go.Proofs.Ytklngjjokbhfpaa
open Go.RowKit
namespace Take
open Go.Proofs.Lex

section
variable {P : Program} {ops : Array Oper} {Q : Exit → Act → World → Prop} {md : Region.Mode} {S : World → Prop} {N : Nat → Bool}

/-- The operations that are taken first, then the rest. -/
def wpTake (P : Program) (ops : Array Oper) (S : World → Prop) (tail : Act → World → Prop) : List Nat → Act → World → Prop
  | [], a, w => tail a w
  | k :: rest, a, w => ∃ o v, ops[k]? = some o ∧ YieldsIf P ops S o v a ∧ wpTake P ops S tail rest (a.put o.dst v) w

def takeOK (md : Region.Mode) (ops : Array Oper) (N : Nat → Bool) : List Nat → Array Bool → Bool
  | [], _ => true
  | k :: rest, listed => (Region.ready md ops listed).contains k && Region.free md ops listed k && (List.range ops.size).all (fun j => j == k || N j || Region.waitsFor md ops j k) && takeOK md ops N rest (listed.setIfInBounds k true)
def takenL : List Nat → Array Bool → Array Bool
  | [], listed => listed
  | k :: rest, listed => takenL rest (listed.setIfInBounds k true)

theorem wpAnyN_take (hsel : ∀ (j : Nat) (o : Oper) cs b, ops[j]? = some o → o.op ≠ .select cs b) (hQ : ∀ c a b w, Q (.panic c) a w → Q (.panic c) b w) (fuel : Nat) :
    ∀ (l : List Nat) (listed : Array Bool) (a : Act) (w : World), takeOK md ops N l listed = true → S w → wpTake P ops S (wpAnyN P md ops Q S N fuel (takenL l listed)) l a w → wpAnyN P md ops Q S N (fuel + l.length) listed a w
  | [], listed, a, w, _, _, h => h
  | k :: rest, listed, a, w, hok, hS, h => by
    obtain ⟨o, v, ho, hy, h⟩ := h
    simp only [takeOK, Bool.and_eq_true] at hok
    obtain ⟨⟨⟨h1, h2⟩, h3⟩, h4⟩ := hok
    have h := wpAnyN_take hsel hQ fuel rest (listed.setIfInBounds k true) (a.put o.dst v) w h4 hS h
    refine wpAnyN_first ho hsel (fun c a w => hQ c _ _ w) (fun j hj hne hn => ?_) (fuel + rest.length) listed a w (Region.free_spec ho h2) (by simpa using h1) hy hS h
    have := List.all_eq_true.1 h3 j (List.mem_range.2 hj)
    simpa [hne, hn] using this

theorem take_nil {tail : Act → World → Prop} {a : Act} {w : World} (h : tail a w) : wpTake P ops S tail [] a w := h
theorem take_do {tail : Act → World → Prop} {k d : Nat} {rest : List Nat} {o : Oper} {v : Value} {a : Act} {w : World} (ho : ops[k]? = some o) (hd : o.dst = some d) (hw : Region.wanted o (yielded ops a.tmps) = true)
    (hv : ∀ w', S w' → (execOp a.eval o).run P w' = .ok (.value v) w') (h : wpTake P ops S tail rest { tmps := a.tmps.setIfInBounds d v, defers := a.defers } w) : wpTake P ops S tail (k :: rest) a w :=
  ⟨o, v, ho, .inl ⟨hw, hv⟩, by rw [hd]; exact h⟩

/-- What stands behind one operation. -/
def StepQ (Q : Exit → Act → World → Prop) (K : Act → World → Prop) : Exit → Act → World → Prop
  | .normal, a, w => K a w
  | e, a, w => Q e a w

theorem step_do {k : Nat} {o : Oper} {a : Act} {w : World} {K : Act → World → Prop} (ho : ops[k]? = some o) (h : wpList P ops (StepQ Q K) [o] a w) : wpOp P ops Q k K a w := by
  unfold wpOp
  simp only [ho]
  unfold wpList at h
  split
  · rename_i hw
    rw [if_pos hw] at h
    rcases h with h | ⟨h1, a', w', h2⟩
    · exact .inl (upon_post (fun _ _ _ h => h) (fun _ _ h => h) h)
    · exact .inr ⟨h1, a', w', h2⟩
  · rename_i hw
    rw [if_neg hw] at h
    exact h

/-- One step of whatever may come next. -/
theorem any_step {fuel : Nat} {listed : Array Bool} {a : Act} {w : World} (l : List Nat) (hl : Region.ready md ops listed = l) (hne : l.isEmpty = false)
    (h : ∀ i ∈ l, wpOp P ops Q i (fun a' w' => (N i = true → S w') ∧ wpAnyN P md ops Q S N fuel (listed.setIfInBounds i true) a' w') a w) : wpAnyN P md ops Q S N (fuel + 1) listed a w := by
  refine ⟨fun e => ?_, fun i hi => h i (hl ▸ hi)⟩
  rw [hl] at e
  subst e
  simp at hne
theorem any_end {fuel : Nat} {listed : Array Bool} {a : Act} {w : World} (hl : Region.ready md ops listed = []) (h : Q .normal a w) : wpAnyN P md ops Q S N fuel listed a w := by
  cases fuel with
  | zero => exact ⟨hl, h⟩
  | succ n => exact ⟨fun _ => h, fun i hi => by rw [hl] at hi; cases hi⟩
end
end Take

variable {n lp : Nat} {P : Program} {Q : Exit → Act → World → Prop}
/-- Within a round. -/
theorem wpIn_region_take {id : Nat} {l : List Oper} {a : Act} {w : World} (S : World → Prop) (N : Nat → Bool) (ks : List Nat) (fuel : Nat) (hm : P.follows .mixedOrders = true)
    (hsel : Region.noSelect l.toArray = true) (hlen : fuel + ks.length = l.toArray.size) (hok : Take.takeOK .any l.toArray N ks (Array.replicate l.toArray.size false) = true) (hnd : noDefer l.toArray = true) (hS : S w.drew)
    (h : ∀ (OPS : Array Oper) (QQ : Exit → Act → World → Prop), OPS = l.toArray → QQ = OnlyN Q → Take.wpTake P OPS S (Lex.wpAnyN P .any OPS QQ S N fuel (Take.takenL ks (Array.replicate l.toArray.size false))) ks a w.drew) : (Code.region id l.toArray true).wpIn (Fence.wide.inRound lp) n P Q a w := by
  refine wpIn_mono (Q := OnlyN Q) (wpIn_region_any hm (wpAny_in hnd onlyN_out _ _ _ _ (Lex.wpAny_of_N (S := S) (N := N) _ _ _ _ ?_))) OnlyN.imp
  have := Take.wpAnyN_take (Q := OnlyN Q) (Region.noSelect_spec hsel) (fun c a b w h => h) fuel ks _ a w.drew hok hS (h _ _ rfl rfl)
  rw [hlen] at this
  exact this

end Go.Proofs.Ytklngjjokbhfpaa
