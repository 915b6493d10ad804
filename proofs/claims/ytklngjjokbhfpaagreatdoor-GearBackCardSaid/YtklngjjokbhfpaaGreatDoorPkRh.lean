/- Texts Rh Ri in one. -/
import Derived.Test.YtklngjjokbhfpaaGreatDoorPkLex
import Derived.Test.YtklngjjokbhfpaaGreatDoorRf
import Derived.OrdersIn
import Derived.TacticsIn
namespace Go.Proofs.YtklngjjokbhfpaaGreatDoor
open Go.RowKit

def isDefer : Op → Bool
  | .defer _ => true
  | _ => false
def noDefer (ops : Array Oper) : Bool := ops.all fun o => !isDefer o.op
theorem noDefer_spec {ops : Array Oper} (h : noDefer ops = true) {i : Nat} {o : Oper} (ho : ops[i]? = some o) : ∀ c, o.op ≠ .defer c := by
  intro c hc
  have hm : o ∈ ops := Array.mem_of_getElem? ho
  have := Array.all_eq_true'.1 h o hm
  rw [hc] at this
  simp [isDefer] at this

/-- A region ends by its end. -/
def OnlyN (Q : Exit → Act → World → Prop) : Exit → Act → World → Prop
  | .normal, a, w => Q .normal a w
  | _, _, _ => False
theorem OnlyN.imp {Q : Exit → Act → World → Prop} : ∀ (e : Exit) (a : Act) (w : World), OnlyN Q e a w → Q e a w := fun e a w h => by
  cases e <;> first | exact h | exact (h : False).elim
theorem onlyN_out {Q : Exit → Act → World → Prop} : ¬ LetsOut (OnlyN Q) := fun ⟨_, _, h⟩ => h

section
variable {n lp : Nat} {P : Program} {ops : Array Oper} {Q : Exit → Act → World → Prop}

theorem oper_in {o : Oper} {a : Act} {w : World} {K : Act → World → Prop} (hnd : ∀ c, o.op ≠ .defer c) (h : o.wp P a w K Q) : o.wpIn (Fence.wide.inRound lp) n P a w K Q := by
  refine ⟨fun _ _ => trivial, ?_⟩
  rw [show (Fence.wide.inRound lp).round = some lp from rfl, Oper.semAt_some lp a.eval o hnd]
  unfold Oper.wp at h
  generalize (execOp a.eval o).run P w = r at *
  cases r with
  | ok x w' =>
    cases x <;> simp only [Oper.upon] at h <;> simp only [Oper.uponIn]
    case value u => exact h
    case skip => exact h
    case defer d => exact h
    case enter f args => exact ⟨fun h => by simp [Fence.wide] at h, CallsIn.inRound lp (callsIn_wide.2 h)⟩
    case row row args => exact ⟨fun h => by simp [Fence.wide] at h, fun c cs _ => let ⟨v, w', r, s⟩ := h c cs; ⟨v, w', r, stepsIn_wide.2 s⟩⟩
  | halt x w' =>
    cases x <;> simp only [Oper.upon] at h <;> simp only [Oper.uponIn]
    case panic u => exact h

theorem wpOp_in {i : Nat} {a : Act} {w : World} {K K' : Act → World → Prop} (hK : ∀ a w, K a w → K' a w) (hnd : noDefer ops = true) (hq : ¬ LetsOut Q) (h : wpOp P ops Q i K a w) : wpOpIn (Fence.wide.inRound lp) n P ops Q i K' a w := by
  unfold wpOp at h
  unfold wpOpIn
  cases ho : ops[i]? with
  | none => simp only [ho] at h ⊢; exact hK _ _ h
  | some o =>
    simp only [ho] at h ⊢
    split
    · rename_i hw
      rw [if_pos hw] at h
      rcases h with h | h
      · exact Oper.wpIn_mono hK (oper_in (noDefer_spec hnd ho) h)
      · exact absurd h.2 hq
    · rename_i hw
      rw [if_neg hw] at h
      exact ⟨fun _ _ => trivial, hK _ _ h⟩

theorem wpAny_in {md : Region.Mode} (hnd : noDefer ops = true) (hq : ¬ LetsOut Q) : ∀ (fuel : Nat) (listed : Array Bool) (a : Act) (w : World), wpAny P md ops Q fuel listed a w → wpAnyIn (Fence.wide.inRound lp) n P md ops Q fuel listed a w
  | 0, _, _, _, h => h
  | fuel + 1, _listed, _a, _w, h => ⟨h.1, fun i hi => wpOp_in (fun a w h' => wpAny_in hnd hq fuel _ a w h') hnd hq (h.2 i hi)⟩

theorem wpList_in (hq : ¬ LetsOut Q) : ∀ (l : List Oper) (a : Act) (w : World), (∀ o ∈ l, ∀ c, o.op ≠ .defer c) → wpList P ops Q l a w → wpListIn (Fence.wide.inRound lp) n P ops Q l a w
  | [], _, _, _, h => h
  | o :: rest, a, w, hnd, h => by
    unfold wpList at h
    unfold wpListIn
    split
    · rename_i hw
      rw [if_pos hw] at h
      rcases h with h | h
      · exact Oper.wpIn_mono (fun a w h' => wpList_in hq rest a w (fun o ho => hnd o (List.mem_cons_of_mem _ ho)) h') (oper_in (hnd o (List.mem_cons_self ..)) h)
      · exact absurd h.2 hq
    · rename_i hw
      rw [if_neg hw] at h
      exact ⟨fun _ _ => trivial, wpList_in hq rest _ _ (fun o ho => hnd o (List.mem_cons_of_mem _ ho)) h⟩
end

section
variable {n lp : Nat} {P : Program} {Q : Exit → Act → World → Prop} {S : World → Prop} {N : Nat → Bool}
/-- A region that draws, in one order. -/
theorem wpIn_region_lex {id : Nat} {l : List Oper} {a : Act} {w : World} (S : World → Prop) (N : Nat → Bool) (ord : List (Nat × Bool)) (hm : P.follows .mixedOrders = true)
    (hsel : Region.noSelect l.toArray = true) (hlen : ord.length = l.toArray.size) (hok : Lex.lexOK .any l.toArray N ord (Array.replicate l.toArray.size false) = true) (hnd : noDefer l.toArray = true) (hS : S w.drew)
    (h : Lex.wpLex P l.toArray (OnlyN Q) S N ord a w.drew) : (Code.region id l.toArray true).wpIn (Fence.wide.inRound lp) n P Q a w := by
  refine wpIn_mono (Q := OnlyN Q) (wpIn_region_any hm (wpAny_in hnd onlyN_out _ _ _ _ (Lex.wpAny_of_N (S := S) (N := N) _ _ _ _ ?_))) OnlyN.imp
  have := Lex.wpAnyN_of_lex (Q := OnlyN Q) (Region.noSelect_spec hsel) (fun c a b w h => h) ord _ a w.drew hok (.inl hS) h
  rw [hlen] at this
  exact this
/-- A region that does not draw. -/
theorem wpIn_region_plain {id : Nat} {l : List Oper} {a : Act} {w : World} (hnd : noDefer l.toArray = true) (h : wpList P l.toArray (OnlyN Q) l a w) : (Code.region id l.toArray false).wpIn (Fence.wide.inRound lp) n P Q a w :=
  wpIn_mono (Q := OnlyN Q) (wpIn_region_lit (wpList_in onlyN_out l a w (fun o ho => by
    obtain ⟨i, hi, rfl⟩ := List.getElem_of_mem ho
    exact noDefer_spec hnd (i := i) (by simp [hi])) h)) OnlyN.imp
theorem lexN_nil {ops : Array Oper} {a : Act} {w : World} (h : Q .normal a w) : Lex.wpLex P ops (OnlyN Q) S N [] a w := h
end

end Go.Proofs.YtklngjjokbhfpaaGreatDoor

namespace Go.Proofs.YtklngjjokbhfpaaGreatDoor
open Go.RowKit
namespace Take
open Go.Proofs.Lex

section
variable {P : Program} {ops : Array Oper} {Q : Exit → Act → World → Prop} {md : Region.Mode} {S : World → Prop} {N : Nat → Bool}

/-- The operations that are taken first, then the rest. -/
def wpTake (P : Program) (ops : Array Oper) (S : World → Prop) (tail : Act → World → Prop) : List Nat → Act → World → Prop
  | [], a, w => tail a w
  | k :: rest, a, w => ∃ o v, ops[k]? = some o ∧ YieldsIf P ops S o v a ∧ wpTake P ops S tail rest (a.put o.dst v) w

def takeOK (md : Region.Mode) (ops : Array Oper) (N : Nat → Bool) : List Nat → Array Bool → Bool
  | [], _ => true
  | k :: rest, listed => (Region.ready md ops listed).contains k && Region.free md ops listed k && (List.range ops.size).all (fun j => j == k || N j || Region.waitsFor md ops j k) && takeOK md ops N rest (listed.setIfInBounds k true)
def takenL : List Nat → Array Bool → Array Bool
  | [], listed => listed
  | k :: rest, listed => takenL rest (listed.setIfInBounds k true)

theorem wpAnyN_take (hsel : ∀ (j : Nat) (o : Oper) cs b, ops[j]? = some o → o.op ≠ .select cs b) (hQ : ∀ c a b w, Q (.panic c) a w → Q (.panic c) b w) (fuel : Nat) :
    ∀ (l : List Nat) (listed : Array Bool) (a : Act) (w : World), takeOK md ops N l listed = true → S w → wpTake P ops S (wpAnyN P md ops Q S N fuel (takenL l listed)) l a w → wpAnyN P md ops Q S N (fuel + l.length) listed a w
  | [], listed, a, w, _, _, h => h
  | k :: rest, listed, a, w, hok, hS, h => by
    obtain ⟨o, v, ho, hy, h⟩ := h
    simp only [takeOK, Bool.and_eq_true] at hok
    obtain ⟨⟨⟨h1, h2⟩, h3⟩, h4⟩ := hok
    have h := wpAnyN_take hsel hQ fuel rest (listed.setIfInBounds k true) (a.put o.dst v) w h4 hS h
    refine wpAnyN_first ho hsel (fun c a w => hQ c _ _ w) (fun j hj hne hn => ?_) (fuel + rest.length) listed a w (Region.free_spec ho h2) (by simpa using h1) hy hS h
    have := List.all_eq_true.1 h3 j (List.mem_range.2 hj)
    simpa [hne, hn] using this

theorem take_nil {tail : Act → World → Prop} {a : Act} {w : World} (h : tail a w) : wpTake P ops S tail [] a w := h
theorem take_do {tail : Act → World → Prop} {k d : Nat} {rest : List Nat} {o : Oper} {v : Value} {a : Act} {w : World} (ho : ops[k]? = some o) (hd : o.dst = some d) (hw : Region.wanted o (yielded ops a.tmps) = true)
    (hv : ∀ w', S w' → (execOp a.eval o).run P w' = .ok (.value v) w') (h : wpTake P ops S tail rest { tmps := a.tmps.setIfInBounds d v, defers := a.defers } w) : wpTake P ops S tail (k :: rest) a w :=
  ⟨o, v, ho, .inl ⟨hw, hv⟩, by rw [hd]; exact h⟩

/-- What stands behind one operation. -/
def StepQ (Q : Exit → Act → World → Prop) (K : Act → World → Prop) : Exit → Act → World → Prop
  | .normal, a, w => K a w
  | e, a, w => Q e a w

theorem step_do {k : Nat} {o : Oper} {a : Act} {w : World} {K : Act → World → Prop} (ho : ops[k]? = some o) (h : wpList P ops (StepQ Q K) [o] a w) : wpOp P ops Q k K a w := by
  unfold wpOp
  simp only [ho]
  unfold wpList at h
  split
  · rename_i hw
    rw [if_pos hw] at h
    rcases h with h | ⟨h1, a', w', h2⟩
    · exact .inl (upon_post (fun _ _ _ h => h) (fun _ _ h => h) h)
    · exact .inr ⟨h1, a', w', h2⟩
  · rename_i hw
    rw [if_neg hw] at h
    exact h

/-- One step of whatever may come next. -/
theorem any_step {fuel : Nat} {listed : Array Bool} {a : Act} {w : World} (l : List Nat) (hl : Region.ready md ops listed = l) (hne : l.isEmpty = false)
    (h : ∀ i ∈ l, wpOp P ops Q i (fun a' w' => (N i = true → S w') ∧ wpAnyN P md ops Q S N fuel (listed.setIfInBounds i true) a' w') a w) : wpAnyN P md ops Q S N (fuel + 1) listed a w := by
  refine ⟨fun e => ?_, fun i hi => h i (hl ▸ hi)⟩
  rw [hl] at e
  subst e
  simp at hne
theorem any_end {fuel : Nat} {listed : Array Bool} {a : Act} {w : World} (hl : Region.ready md ops listed = []) (h : Q .normal a w) : wpAnyN P md ops Q S N fuel listed a w := by
  cases fuel with
  | zero => exact ⟨hl, h⟩
  | succ n => exact ⟨fun _ => h, fun i hi => by rw [hl] at hi; cases hi⟩
end
end Take

variable {n lp : Nat} {P : Program} {Q : Exit → Act → World → Prop}
/-- Within a round. -/
theorem wpIn_region_take {id : Nat} {l : List Oper} {a : Act} {w : World} (S : World → Prop) (N : Nat → Bool) (ks : List Nat) (fuel : Nat) (hm : P.follows .mixedOrders = true)
    (hsel : Region.noSelect l.toArray = true) (hlen : fuel + ks.length = l.toArray.size) (hok : Take.takeOK .any l.toArray N ks (Array.replicate l.toArray.size false) = true) (hnd : noDefer l.toArray = true) (hS : S w.drew)
    (h : ∀ (OPS : Array Oper) (QQ : Exit → Act → World → Prop), OPS = l.toArray → QQ = OnlyN Q → Take.wpTake P OPS S (Lex.wpAnyN P .any OPS QQ S N fuel (Take.takenL ks (Array.replicate l.toArray.size false))) ks a w.drew) : (Code.region id l.toArray true).wpIn (Fence.wide.inRound lp) n P Q a w := by
  refine wpIn_mono (Q := OnlyN Q) (wpIn_region_any hm (wpAny_in hnd onlyN_out _ _ _ _ (Lex.wpAny_of_N (S := S) (N := N) _ _ _ _ ?_))) OnlyN.imp
  have := Take.wpAnyN_take (Q := OnlyN Q) (Region.noSelect_spec hsel) (fun c a b w h => h) fuel ks _ a w.drew hok hS (h _ _ rfl rfl)
  rw [hlen] at this
  exact this

end Go.Proofs.YtklngjjokbhfpaaGreatDoor
