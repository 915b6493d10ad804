/- Texts Rb Rc in one. -/
import Derived.Test.YtbkgbkmpalbdpaaGreatDoorPkLex
import Derived.Test.YtbkgbkmpalbdpaaGreatDoorRa
import Derived.OrdersIn
import Derived.TacticsIn
namespace Go.Proofs.YtbkgbkmpalbdpaaGreatDoor
open Go.RowKit

def isDefer : Op → Bool
  | .defer _ => true
  | _ => false
def noDefer (ops : Array Oper) : Bool := ops.all fun o => !isDefer o.op
theorem noDefer_spec {ops : Array Oper} (h : noDefer ops = true) {i : Nat} {o : Oper} (ho : ops[i]? = some o) : ∀ c, o.op ≠ .defer c := by
  intro c hc
  have hm : o ∈ ops := Array.mem_of_getElem? ho
  have := Array.all_eq_true'.1 h o hm
  rw [hc] at this
  simp [isDefer] at this

/-- A region ends by its end. -/
def OnlyN (Q : Exit → Act → World → Prop) : Exit → Act → World → Prop
  | .normal, a, w => Q .normal a w
  | _, _, _ => False
theorem OnlyN.imp {Q : Exit → Act → World → Prop} : ∀ (e : Exit) (a : Act) (w : World), OnlyN Q e a w → Q e a w := fun e a w h => by
  cases e <;> first | exact h | exact (h : False).elim
theorem onlyN_out {Q : Exit → Act → World → Prop} : ¬ LetsOut (OnlyN Q) := fun ⟨_, _, h⟩ => h

section
variable {n lp : Nat} {P : Program} {ops : Array Oper} {Q : Exit → Act → World → Prop}

theorem oper_in {o : Oper} {a : Act} {w : World} {K : Act → World → Prop} (hnd : ∀ c, o.op ≠ .defer c) (h : o.wp P a w K Q) : o.wpIn (Fence.wide.inRound lp) n P a w K Q := by
  refine ⟨fun _ _ => trivial, ?_⟩
  rw [show (Fence.wide.inRound lp).round = some lp from rfl, Oper.semAt_some lp a.eval o hnd]
  unfold Oper.wp at h
  generalize (execOp a.eval o).run P w = r at *
  cases r with
  | ok x w' =>
    cases x <;> simp only [Oper.upon] at h <;> simp only [Oper.uponIn]
    case value u => exact h
    case skip => exact h
    case defer d => exact h
    case enter f args => exact ⟨fun h => by simp [Fence.wide] at h, CallsIn.inRound lp (callsIn_wide.2 h)⟩
    case row row args => exact ⟨fun h => by simp [Fence.wide] at h, fun c cs _ => let ⟨v, w', r, s⟩ := h c cs; ⟨v, w', r, stepsIn_wide.2 s⟩⟩
  | halt x w' =>
    cases x <;> simp only [Oper.upon] at h <;> simp only [Oper.uponIn]
    case panic u => exact h

theorem wpList_in (hq : ¬ LetsOut Q) : ∀ (l : List Oper) (a : Act) (w : World), (∀ o ∈ l, ∀ c, o.op ≠ .defer c) → wpList P ops Q l a w → wpListIn (Fence.wide.inRound lp) n P ops Q l a w
  | [], _, _, _, h => h
  | o :: rest, a, w, hnd, h => by
    unfold wpList at h
    unfold wpListIn
    split
    · rename_i hw
      rw [if_pos hw] at h
      rcases h with h | h
      · exact Oper.wpIn_mono (fun a w h' => wpList_in hq rest a w (fun o ho => hnd o (List.mem_cons_of_mem _ ho)) h') (oper_in (hnd o (List.mem_cons_self ..)) h)
      · exact absurd h.2 hq
    · rename_i hw
      rw [if_neg hw] at h
      exact ⟨fun _ _ => trivial, wpList_in hq rest _ _ (fun o ho => hnd o (List.mem_cons_of_mem _ ho)) h⟩
end

section
variable {n lp : Nat} {P : Program} {Q : Exit → Act → World → Prop} {S : World → Prop} {N : Nat → Bool}
/-- A region that does not draw. -/
theorem wpIn_region_plain {id : Nat} {l : List Oper} {a : Act} {w : World} (hnd : noDefer l.toArray = true) (h : wpList P l.toArray (OnlyN Q) l a w) : (Code.region id l.toArray false).wpIn (Fence.wide.inRound lp) n P Q a w :=
  wpIn_mono (Q := OnlyN Q) (wpIn_region_lit (wpList_in onlyN_out l a w (fun o ho => by
    obtain ⟨i, hi, rfl⟩ := List.getElem_of_mem ho
    exact noDefer_spec hnd (i := i) (by simp [hi])) h)) OnlyN.imp
end

end Go.Proofs.YtbkgbkmpalbdpaaGreatDoor

namespace Go.Proofs.YtbkgbkmpalbdpaaGreatDoor
open Go.RowKit
namespace LexY
open Go.Proofs.Lex

section
variable {n y : Nat} {P : Program} {ops : Array Oper} {Q : Exit → Act → World → Prop} {md : Region.Mode} {S : World → Prop} {N : Nat → Bool}

theorem oper_wide {o : Oper} {a : Act} {w : World} {K : Act → World → Prop} (h : o.wp P a w K Q) : o.wpIn Fence.wide n P a w K Q := by
  refine ⟨fun _ _ => trivial, ?_⟩
  rw [show Fence.wide.round = none from rfl, Oper.semAt_none]
  unfold Oper.wp at h
  generalize (execOp a.eval o).run P w = r at *
  cases r with
  | ok x w' =>
    cases x <;> simp only [Oper.upon] at h <;> simp only [Oper.uponIn]
    case value u => exact h
    case skip => exact h
    case defer d => exact h
    case enter f args => exact ⟨fun h => by simp [Fence.wide] at h, callsIn_wide.2 h⟩
    case row row args => exact ⟨fun h => by simp [Fence.wide] at h, fun c cs _ => let ⟨v, w', r, s⟩ := h c cs; ⟨v, w', r, stepsIn_wide.2 s⟩⟩
  | halt x w' =>
    cases x <;> simp only [Oper.upon] at h <;> simp only [Oper.uponIn]
    case panic u => exact h
theorem opIn_of_op {i : Nat} {a : Act} {w : World} {K K' : Act → World → Prop} (hK : ∀ a w, K a w → K' a w) (hq : ¬ LetsOut Q) (h : wpOp P ops Q i K a w) : wpOpIn Fence.wide n P ops Q i K' a w := by
  unfold wpOp at h
  unfold wpOpIn
  cases ho : ops[i]? with
  | none => simp only [ho] at h ⊢; exact hK _ _ h
  | some o =>
    simp only [ho] at h ⊢
    split
    · rename_i hw
      rw [if_pos hw] at h
      rcases h with h | h
      · exact Oper.wpIn_mono hK (oper_wide h)
      · exact absurd h.2 hq
    · rename_i hw
      rw [if_neg hw] at h
      exact ⟨fun _ _ => trivial, hK _ _ h⟩
theorem yields_opIn {i : Nat} {o : Oper} {v : Value} {a : Act} (hi : ops[i]? = some o) (hy : YieldsIf P ops S o v a)
    {K : Act → World → Prop} {w : World} (hS : S w) (h : K (a.put o.dst v) w) : wpOpIn Fence.wide n P ops Q i K a w := by
  unfold wpOpIn
  simp only [hi]
  rcases hy with ⟨hw, hv⟩ | ⟨hw, rfl⟩
  · simp only [hw, if_true]
    refine ⟨fun _ _ => trivial, ?_⟩
    rw [show Fence.wide.round = none from rfl, Oper.semAt_none, hv w hS]
    exact h
  · simp only [hw, Bool.false_eq_true, if_false]
    exact ⟨fun _ _ => trivial, h⟩
theorem opIn_putIf {j : Nat} {oi oj : Oper} {v : Value} (hj : ops[j]? = some oj) (hap : oi.apart ops oj = true)
    (hsi : ∀ cs b, oi.op ≠ .select cs b) (hsj : ∀ cs b, oj.op ≠ .select cs b)
    (hQ : ∀ c a w, Q (.panic c) (a.put oi.dst v) w → Q (.panic c) a w) {K : Act → World → Prop} {a : Act} {w : World}
    (hy : YieldsIf P ops S oi v a) (h : wpOpIn Fence.wide n P ops Q j K (a.put oi.dst v) w) :
    wpOpIn Fence.wide n P ops Q j (fun a' w' => YieldsIf P ops S oi v a' ∧ K (a'.put oi.dst v) w') a w := by
  obtain ⟨h1, h2, h3⟩ := Oper.apart_spec hap
  have keep : ∀ (a : Act), YieldsIf P ops S oi v a → ∀ u, YieldsIf P ops S oi v (a.put oj.dst u) := fun a hy u =>
    hy.of_same (execOp_put oi hsi a oj.dst u h3) (wanted_put oi a oj.dst u h3)
  have keepD : ∀ d, YieldsIf P ops S oi v { a with defers := d :: a.defers } := fun d => hy.of_same rfl rfl
  unfold wpOpIn at *
  simp only [hj] at *
  rw [wanted_put oj a oi.dst v h1] at h
  split
  · rename_i hw
    simp only [hw, if_true] at h
    unfold Oper.wpIn at *
    refine ⟨fun _ _ => trivial, ?_⟩
    have h := h.2
    rw [show Fence.wide.round = none from rfl, Oper.semAt_none, execOp_put oj hsj a oi.dst v h1] at h
    rw [show Fence.wide.round = none from rfl, Oper.semAt_none]
    generalize (execOp a.eval oj).run P w = r at *
    cases r with
    | ok x w' =>
      cases x <;> simp only [Oper.uponIn] at h ⊢
      case value u => exact ⟨keep a hy u, by rw [← Act.put_comm a v u h2]; exact h⟩
      case skip => exact ⟨keep a hy _, by rw [← Act.put_comm a v undef h2]; exact h⟩
      case defer d =>
        refine ⟨keep _ (keepD d) _, ?_⟩
        rw [← Act.put_comm _ v undef h2, ← Act.put_defers]
        exact h
      case enter f args =>
        refine ⟨h.1, CallsIn.mono h.2 fun e w'' he => ?_⟩
        cases e with
        | returned u => exact ⟨keep a hy u, by rw [← Act.put_comm a v u h2]; exact he⟩
        | panicked c => exact hQ _ _ _ he
        | outgrown => exact he
      case row row args => exact ⟨h.1, RowsIn.mono h.2 fun u w'' he => ⟨keep a hy u, by rw [← Act.put_comm a v u h2]; exact he⟩⟩
      case round l f tmps assign body =>
        refine ⟨h.1, RoundIn.mono h.2 fun e w'' he => ?_⟩
        cases e with
        | returned u => exact ⟨keep a hy u, by rw [← Act.put_comm a v u h2]; exact he⟩
        | panicked c => exact hQ _ _ _ he
        | outgrown => exact he
    | halt x w' =>
      cases x <;> simp only [Oper.uponIn] at h ⊢
      case panic u => exact hQ _ _ _ h
  · rename_i hw
    simp only [hw] at h
    exact ⟨fun _ _ => trivial, keep a hy _, by rw [← Act.put_comm a v undef h2]; exact h.2⟩

def wpAnyY (n : Nat) (P : Program) (md : Region.Mode) (ops : Array Oper) (Q : Exit → Act → World → Prop) (S : World → Prop) (N : Nat → Bool) : Nat → Array Bool → Act → World → Prop
  | 0, listed, a, w => Region.ready md ops listed = [] ∧ Q .normal a w
  | fuel + 1, listed, a, w =>
    (Region.ready md ops listed = [] → Q .normal a w) ∧
    ∀ i ∈ Region.ready md ops listed, wpOpIn Fence.wide n P ops Q i (fun a' w' => (N i = true → S w') ∧ wpAnyY n P md ops Q S N fuel (listed.setIfInBounds i true) a' w') a w

theorem in_of_any : ∀ (fuel : Nat) (listed : Array Bool) (a : Act) (w : World), wpAnyY n P md ops Q S N fuel listed a w → wpAnyIn Fence.wide n P md ops Q fuel listed a w
  | 0, _, _, _, h => h
  | fuel + 1, _, _, _, h => ⟨h.1, fun i hi => wpOpIn_mono (fun a' w' h' => in_of_any fuel _ a' w' h'.2) (h.2 i hi)⟩

theorem anyY_first {i : Nat} {oi : Oper} {v : Value} (hi : ops[i]? = some oi) (hsel : ∀ (j : Nat) (o : Oper) cs b, ops[j]? = some o → o.op ≠ .select cs b)
    (hQ : ∀ c a w, Q (.panic c) (a.put oi.dst v) w → Q (.panic c) a w) (hN : ∀ j, j < ops.size → j ≠ i → N j = false → Region.waitsFor md ops j i = true) :
    ∀ (fuel : Nat) (listed : Array Bool) (a : Act) (w : World),
      (∀ j oj, ops[j]? = some oj → j ≠ i → listed.getD j true = false → (∀ e ∈ oj.after, Region.binds md e = true → e.on ≠ i) → oi.apart ops oj = true) →
      i ∈ Region.ready md ops listed → YieldsIf P ops S oi v a → S w →
      wpAnyY n P md ops Q S N fuel (listed.setIfInBounds i true) (a.put oi.dst v) w → wpAnyY n P md ops Q S N (fuel + 1) listed a w := by
  intro fuel
  induction fuel with
  | zero =>
    intro listed a w _ hr hy hS H
    refine ⟨fun h => (by rw [h] at hr; cases hr), fun j hj => ?_⟩
    by_cases hji : j = i
    · subst hji; exact yields_opIn hi hy hS ⟨fun _ => hS, H⟩
    · have := ready_mono hj hji
      rw [H.1] at this
      cases this
  | succ fuel ih =>
    intro listed a w hfree hr hy hS H
    refine ⟨fun h => (by rw [h] at hr; cases hr), fun j hj => ?_⟩
    by_cases hji : j = i
    · subst hji; exact yields_opIn hi hy hS ⟨fun _ => hS, H⟩
    · have h1 := H.2 j (ready_mono hj hji)
      obtain ⟨hjun, oj, hoj, hall⟩ := mem_ready.1 hj
      have hnot : ∀ e ∈ oj.after, Region.binds md e = true → e.on ≠ i := fun e he hb heq => by
        have h1 := hall e he hb
        have h0 := (mem_ready.1 hr).1
        rw [heq] at h1
        rcases Nat.lt_or_ge i listed.size with h' | h'
        · simp [h'] at h0 h1; rw [h0] at h1; cases h1
        · simp [Array.getElem?_eq_none h'] at h1
      have hNj : N j = true := by
        cases hn : N j with
        | true => rfl
        | false =>
          obtain ⟨o', ho', e, he, hb, hon⟩ := Region.waitsFor_spec (hN j (Array.getElem?_eq_some_iff.1 hoj).1 hji hn)
          have : o' = oj := Option.some.inj (ho'.symm.trans hoj)
          subst this
          exact absurd hon (hnot e he hb)
      have h2 := opIn_putIf hoj (hfree j oj hoj hji hjun hnot) (fun cs b => hsel i oi cs b hi) (fun cs b => hsel j oj cs b hoj) hQ hy h1
      have hfree' : ∀ k ok, ops[k]? = some ok → k ≠ i → (listed.setIfInBounds j true).getD k true = false →
          (∀ e ∈ ok.after, Region.binds md e = true → e.on ≠ i) → oi.apart ops ok = true := fun k ok hk hki hun hno => by
        refine hfree k ok hk hki ?_ hno
        by_cases hjk : j = k
        · subst hjk; exact hjun
        · rw [getD_set_ne true hjk] at hun; exact hun
      refine wpOpIn_mono (fun a' w' h3 => ⟨fun _ => h3.2.1 hNj, ih (listed.setIfInBounds j true) a' w' hfree' (ready_mono hr (Ne.symm hji)) h3.1 (h3.2.1 hNj) ?_⟩) h2
      rw [Array.setIfInBounds_comm _ _ hji]
      exact h3.2.2

/-- The walk: (number, is it taken first). -/
def wpLexY (n : Nat) (P : Program) (ops : Array Oper) (Q : Exit → Act → World → Prop) (S : World → Prop) (N : Nat → Bool) : List (Nat × Bool) → Act → World → Prop
  | [], a, w => Q .normal a w
  | (k, true) :: rest, a, w => ∃ o v, ops[k]? = some o ∧ YieldsIf P ops S o v a ∧ wpLexY n P ops Q S N rest (a.put o.dst v) w
  | (k, false) :: rest, a, w => wpOpIn Fence.wide n P ops Q k (fun a' w' => (N k = true → S w') ∧ S w' ∧ wpLexY n P ops Q S N rest a' w') a w

def lexOKY (md : Region.Mode) (ops : Array Oper) (N : Nat → Bool) : List (Nat × Bool) → Array Bool → Bool
  | [], listed => (Region.ready md ops listed).isEmpty
  | (k, true) :: rest, listed => (Region.ready md ops listed).contains k && Region.free md ops listed k && (List.range ops.size).all (fun j => j == k || N j || Region.waitsFor md ops j k) && lexOKY md ops N rest (listed.setIfInBounds k true)
  | (k, false) :: rest, listed => decide (Region.ready md ops listed = [k]) && lexOKY md ops N rest (listed.setIfInBounds k true)

theorem any_of_lexY (hsel : ∀ (j : Nat) (o : Oper) cs b, ops[j]? = some o → o.op ≠ .select cs b) (hQ : ∀ c a b w, Q (.panic c) a w → Q (.panic c) b w) :
    ∀ (l : List (Nat × Bool)) (listed : Array Bool) (a : Act) (w : World), lexOKY md ops N l listed = true → S w → wpLexY n P ops Q S N l a w → wpAnyY n P md ops Q S N l.length listed a w
  | [], listed, a, w, hok, _, h => ⟨by simpa [lexOKY] using hok, h⟩
  | (k, true) :: rest, listed, a, w, hok, hS, h => by
    obtain ⟨o, v, ho, hy, h⟩ := h
    simp only [lexOKY, Bool.and_eq_true] at hok
    obtain ⟨⟨⟨h1, h2⟩, h3⟩, h4⟩ := hok
    refine anyY_first ho hsel (fun c a w => hQ c _ _ w) (fun j hj hne hn => ?_) _ listed a w (Region.free_spec ho h2) (by simpa using h1) hy hS (any_of_lexY hsel hQ rest _ _ _ h4 hS h)
    have := List.all_eq_true.1 h3 j (List.mem_range.2 hj)
    simpa [hne, hn] using this
  | (k, false) :: rest, listed, a, w, hok, hS, h => by
    simp only [lexOKY, Bool.and_eq_true, decide_eq_true_eq] at hok
    obtain ⟨h1, h3⟩ := hok
    refine ⟨fun h0 => (by rw [h1] at h0; cases h0), fun i hi => ?_⟩
    rw [h1] at hi
    have hik : i = k := by simpa using hi
    subst hik
    exact wpOpIn_mono (fun a' w' h' => ⟨h'.1, any_of_lexY hsel hQ rest _ _ _ h3 h'.2.1 h'.2.2⟩) h

/-- THE BEGINNING. -/
theorem wp_region_lexY {id : Nat} {l : List Oper} {a : Act} {w : World} (n : Nat) (S : World → Prop) (N : Nat → Bool) (ord : List (Nat × Bool)) (hm : P.follows .mixedOrders = true)
    (hsel : Region.noSelect l.toArray = true) (hlen : ord.length = l.toArray.size) (hok : lexOKY .any l.toArray N ord (Array.replicate l.toArray.size false) = true) (hS : S w.drew)
    (h : wpLexY n P l.toArray (OnlyN Q) S N ord a w.drew) : (Code.region id l.toArray true).wp P Q a w := by
  refine (wpIn_wide (n := n)).1 (wpIn_mono (Q := OnlyN Q) (wpIn_region_any hm (in_of_any (S := S) (N := N) _ _ _ _ ?_)) OnlyN.imp)
  have := any_of_lexY (n := n) (P := P) (Q := OnlyN Q) (Region.noSelect_spec hsel) (fun c a b w h => h) ord _ a w.drew hok hS h
  rw [hlen] at this
  exact this
theorem lexY_nil {a : Act} {w : World} (h : Q .normal a w) : wpLexY n P ops (OnlyN Q) S N [] a w := h
theorem lexY_take {k d : Nat} {rest : List (Nat × Bool)} {o : Oper} {v : Value} {a : Act} {w : World} (ho : ops[k]? = some o) (hd : o.dst = some d) (hw : Region.wanted o (yielded ops a.tmps) = true)
    (hv : ∀ w', S w' → (execOp a.eval o).run P w' = .ok (.value v) w') (h : wpLexY n P ops Q S N rest { tmps := a.tmps.setIfInBounds d v, defers := a.defers } w) : wpLexY n P ops Q S N ((k, true) :: rest) a w :=
  ⟨o, v, ho, .inl ⟨hw, hv⟩, by rw [hd]; exact h⟩
/-- What stands behind an operation of the forced order. -/
def LexQY (n : Nat) (P : Program) (ops : Array Oper) (Q : Exit → Act → World → Prop) (S : World → Prop) (N : Nat → Bool) (rest : List (Nat × Bool)) : Exit → Act → World → Prop
  | .normal, a, w => S w ∧ wpLexY n P ops Q S N rest a w
  | e, a, w => Q e a w
theorem lexQY_normal {rest : List (Nat × Bool)} {a : Act} {w : World} (hS : S w) (h : wpLexY n P ops Q S N rest a w) : LexQY n P ops Q S N rest .normal a w := ⟨hS, h⟩
theorem lexY_do {k : Nat} {rest : List (Nat × Bool)} {o : Oper} {a : Act} {w : World} (ho : ops[k]? = some o) (h : wpList P ops (LexQY n P ops (OnlyN Q) S N rest) [o] a w) :
    wpLexY n P ops (OnlyN Q) S N ((k, false) :: rest) a w := by
  show wpOpIn Fence.wide n P ops (OnlyN Q) k (fun a' w' => (N k = true → S w') ∧ S w' ∧ wpLexY n P ops (OnlyN Q) S N rest a' w') a w
  refine opIn_of_op (K := fun a' w' => S w' ∧ wpLexY n P ops (OnlyN Q) S N rest a' w') (fun a' w' h' => ⟨fun _ => h'.1, h'.1, h'.2⟩) onlyN_out ?_
  unfold wpOp
  simp only [ho]
  unfold wpList at h
  split
  · rename_i hw
    rw [if_pos hw] at h
    rcases h with h | ⟨h1, a', w', h2⟩
    · exact .inl (upon_post (fun _ _ _ h => h) (fun _ _ h => h) h)
    · exact .inr ⟨h1, a', w', h2⟩
  · rename_i hw
    rw [if_neg hw] at h
    exact h
/-- The round. -/
theorem lexY_yield {rest : List (Nat × Bool)} {o : Oper} {a : Act} {w : World} {l : Nat} {fn : FuncId} {tmps : Array Value} {assign body : Code} {R : Ending → World → Prop} (ho : ops[y]? = some o) (hw : Region.wanted o (yielded ops a.tmps) = true)
    (hx : (execOp a.eval o).run P w = .ok (.round l fn tmps assign body) w) (hR : RoundIn Fence.wide (n - 1) P l fn tmps assign body w R)
    (h : ∀ e w', R e w' → ∃ v, e = .returned v ∧ S w' ∧ wpLexY n P ops Q S N rest (a.put o.dst v) w') : wpLexY n P ops Q S N ((y, false) :: rest) a w := by
  show wpOpIn Fence.wide n P ops Q y (fun a' w' => (N y = true → S w') ∧ S w' ∧ wpLexY n P ops Q S N rest a' w') a w
  unfold wpOpIn
  simp only [ho]
  rw [if_pos hw]
  refine ⟨fun _ _ => trivial, ?_⟩
  rw [show Fence.wide.round = none from rfl, Oper.semAt_none, hx]
  refine ⟨fun h => by simp [Fence.wide] at h, RoundIn.mono hR fun e w' he => ?_⟩
  obtain ⟨v, rfl, hS, hn⟩ := h e w' he
  exact ⟨fun _ => hS, hS, hn⟩
end
end LexY
end Go.Proofs.YtbkgbkmpalbdpaaGreatDoor
