/- Texts Lex Lf Lp in one. -/
import Derived.OrdersHeld
import Derived.StillTail
import Derived.Deep.RegionHeld3
namespace Go.Proofs.Lex

section
variable {P : Program} {ops : Array Oper} {Q : Exit → Act → World → Prop} {md : Region.Mode} {S : World → Prop} {N : Nat → Bool}

/-- Whatever order is picked from here on; S holds behind those operations that N names. -/
def wpAnyN (P : Program) (md : Region.Mode) (ops : Array Oper) (Q : Exit → Act → World → Prop) (S : World → Prop) (N : Nat → Bool) : Nat → Array Bool → Act → World → Prop
  | 0, listed, a, w => Region.ready md ops listed = [] ∧ Q .normal a w
  | fuel + 1, listed, a, w =>
    (Region.ready md ops listed = [] → Q .normal a w) ∧
    ∀ i ∈ Region.ready md ops listed, wpOp P ops Q i (fun a' w' => (N i = true → S w') ∧ wpAnyN P md ops Q S N fuel (listed.setIfInBounds i true) a' w') a w

theorem wpAny_of_N : ∀ (fuel : Nat) (listed : Array Bool) (a : Act) (w : World), wpAnyN P md ops Q S N fuel listed a w → wpAny P md ops Q fuel listed a w
  | 0, _, _, _, h => h
  | fuel + 1, _, _, _, h => ⟨h.1, fun i hi => wpOp_mono (fun a' w' h' => wpAny_of_N fuel _ a' w' h'.2) (h.2 i hi)⟩

theorem wpAnyN_first {i : Nat} {oi : Oper} {v : Value} (hi : ops[i]? = some oi) (hsel : ∀ (j : Nat) (o : Oper) cs b, ops[j]? = some o → o.op ≠ .select cs b)
    (hQ : ∀ c a w, Q (.panic c) (a.put oi.dst v) w → Q (.panic c) a w) (hN : ∀ j, j < ops.size → j ≠ i → N j = false → Region.waitsFor md ops j i = true) :
    ∀ (fuel : Nat) (listed : Array Bool) (a : Act) (w : World),
      (∀ j oj, ops[j]? = some oj → j ≠ i → listed.getD j true = false → (∀ e ∈ oj.after, Region.binds md e = true → e.on ≠ i) → oi.apart ops oj = true) →
      i ∈ Region.ready md ops listed → YieldsIf P ops S oi v a → S w →
      wpAnyN P md ops Q S N fuel (listed.setIfInBounds i true) (a.put oi.dst v) w → wpAnyN P md ops Q S N (fuel + 1) listed a w := by
  intro fuel
  induction fuel with
  | zero =>
    intro listed a w _ hr hy hS H
    refine ⟨fun h => (by rw [h] at hr; cases hr), fun j hj => ?_⟩
    by_cases hji : j = i
    · subst hji; exact hy.wpOp hi hS ⟨fun _ => hS, H⟩
    · have := ready_mono hj hji
      rw [H.1] at this
      cases this
  | succ fuel ih =>
    intro listed a w hfree hr hy hS H
    refine ⟨fun h => (by rw [h] at hr; cases hr), fun j hj => ?_⟩
    by_cases hji : j = i
    · subst hji; exact hy.wpOp hi hS ⟨fun _ => hS, H⟩
    · have h1 := H.2 j (ready_mono hj hji)
      obtain ⟨hjun, oj, hoj, hall⟩ := mem_ready.1 hj
      have hnot : ∀ e ∈ oj.after, Region.binds md e = true → e.on ≠ i := fun e he hb heq => by
        have h1 := hall e he hb
        have h0 := (mem_ready.1 hr).1
        rw [heq] at h1
        rcases Nat.lt_or_ge i listed.size with h' | h'
        · simp [h'] at h0 h1; rw [h0] at h1; cases h1
        · simp [Array.getElem?_eq_none h'] at h1
      have hNj : N j = true := by
        cases hn : N j with
        | true => rfl
        | false =>
          obtain ⟨o', ho', e, he, hb, hon⟩ := Region.waitsFor_spec (hN j (Array.getElem?_eq_some_iff.1 hoj).1 hji hn)
          have : o' = oj := Option.some.inj (ho'.symm.trans hoj)
          subst this
          exact absurd hon (hnot e he hb)
      have h2 := wpOp_putIf hoj (hfree j oj hoj hji hjun hnot) (fun cs b => hsel i oi cs b hi) (fun cs b => hsel j oj cs b hoj) hQ hy h1
      have hfree' : ∀ k ok, ops[k]? = some ok → k ≠ i → (listed.setIfInBounds j true).getD k true = false →
          (∀ e ∈ ok.after, Region.binds md e = true → e.on ≠ i) → oi.apart ops ok = true := fun k ok hk hki hun hno => by
        refine hfree k ok hk hki ?_ hno
        by_cases hjk : j = k
        · subst hjk; exact hjun
        · rw [getD_set_ne true hjk] at hun; exact hun
      refine wpOp_mono (fun a' w' h3 => ⟨fun _ => h3.2.1 hNj, ih (listed.setIfInBounds j true) a' w' hfree' (ready_mono hr (Ne.symm hji)) h3.1 (h3.2.1 hNj) ?_⟩) h2
      rw [Array.setIfInBounds_comm _ _ hji]
      exact h3.2.2

/-- The walk: (number, is it taken first). -/
def wpLex (P : Program) (ops : Array Oper) (Q : Exit → Act → World → Prop) (S : World → Prop) (N : Nat → Bool) : List (Nat × Bool) → Act → World → Prop
  | [], a, w => Q .normal a w
  | (k, true) :: rest, a, w => ∃ o v, ops[k]? = some o ∧ YieldsIf P ops S o v a ∧ wpLex P ops Q S N rest (a.put o.dst v) w
  | (k, false) :: rest, a, w => wpOp P ops Q k (fun a' w' => (N k = true → S w') ∧ wpLex P ops Q S N rest a' w') a w

def lexOK (md : Region.Mode) (ops : Array Oper) (N : Nat → Bool) : List (Nat × Bool) → Array Bool → Bool
  | [], listed => (Region.ready md ops listed).isEmpty
  | (k, true) :: rest, listed => (Region.ready md ops listed).contains k && Region.free md ops listed k && (List.range ops.size).all (fun j => j == k || N j || Region.waitsFor md ops j k) && lexOK md ops N rest (listed.setIfInBounds k true)
  | (k, false) :: rest, listed => decide (Region.ready md ops listed = [k]) && (N k || rest.all (fun x => !x.2)) && lexOK md ops N rest (listed.setIfInBounds k true)

theorem wpAnyN_of_lex (hsel : ∀ (j : Nat) (o : Oper) cs b, ops[j]? = some o → o.op ≠ .select cs b) (hQ : ∀ c a b w, Q (.panic c) a w → Q (.panic c) b w) :
    ∀ (l : List (Nat × Bool)) (listed : Array Bool) (a : Act) (w : World), lexOK md ops N l listed = true → (S w ∨ l.all (fun x => !x.2) = true) → wpLex P ops Q S N l a w → wpAnyN P md ops Q S N l.length listed a w
  | [], listed, a, w, hok, _, h => ⟨by simpa [lexOK] using hok, h⟩
  | (k, true) :: rest, listed, a, w, hok, hS, h => by
    obtain ⟨o, v, ho, hy, h⟩ := h
    simp only [lexOK, Bool.and_eq_true] at hok
    obtain ⟨⟨⟨h1, h2⟩, h3⟩, h4⟩ := hok
    have hS : S w := by
      rcases hS with h | h
      · exact h
      · simp at h
    refine wpAnyN_first ho hsel (fun c a w => hQ c _ _ w) (fun j hj hne hn => ?_) _ listed a w (Region.free_spec ho h2) (by simpa using h1) hy hS (wpAnyN_of_lex hsel hQ rest _ _ _ h4 (.inl hS) h)
    have := List.all_eq_true.1 h3 j (List.mem_range.2 hj)
    simpa [hne, hn] using this
  | (k, false) :: rest, listed, a, w, hok, hS, h => by
    simp only [lexOK, Bool.and_eq_true, decide_eq_true_eq] at hok
    obtain ⟨⟨h1, h2⟩, h3⟩ := hok
    refine ⟨fun h0 => (by rw [h1] at h0; cases h0), fun i hi => ?_⟩
    rw [h1] at hi
    have hik : i = k := by simpa using hi
    subst hik
    refine wpOp_mono (fun a' w' h' => ⟨h'.1, wpAnyN_of_lex hsel hQ rest _ _ _ h3 ?_ h'.2⟩) h
    simp only [Bool.or_eq_true] at h2
    exact h2.imp h'.1 id

/-- THE BEGINNING. -/
theorem wp_region_lex {id : Nat} {l : List Oper} {a : Act} {w : World} (S : World → Prop) (N : Nat → Bool) (ord : List (Nat × Bool)) (hm : P.follows .mixedOrders = true)
    (hsel : Region.noSelect l.toArray = true) (hlen : ord.length = l.toArray.size) (hok : lexOK .any l.toArray N ord (Array.replicate l.toArray.size false) = true) (hS : S w.drew)
    (h : wpLex P l.toArray (NoPanic Q) S N ord a w.drew) : (Code.region id l.toArray true).wp P Q a w := by
  refine wp_region_noPanic (wp_region_any hm (wpAny_of_N (S := S) (N := N) _ _ _ _ ?_))
  have := wpAnyN_of_lex (Q := NoPanic Q) (Region.noSelect_spec hsel) (fun c a b w h => h) ord _ a w.drew hok (.inl hS) h
  rw [hlen] at this
  exact this

theorem lex_nil {a : Act} {w : World} (h : Q .normal a w) : wpLex P ops (NoPanic Q) S N [] a w := h

/-- An operation that is taken first. -/
theorem lex_take {k d : Nat} {rest : List (Nat × Bool)} {o : Oper} {v : Value} {a : Act} {w : World} (ho : ops[k]? = some o) (hd : o.dst = some d) (hw : Region.wanted o (yielded ops a.tmps) = true)
    (hv : ∀ w', S w' → (execOp a.eval o).run P w' = .ok (.value v) w') (h : wpLex P ops Q S N rest { tmps := a.tmps.setIfInBounds d v, defers := a.defers } w) : wpLex P ops Q S N ((k, true) :: rest) a w :=
  ⟨o, v, ho, .inl ⟨hw, hv⟩, by rw [hd]; exact h⟩

/-- .. that is not wanted. -/
theorem lex_skip {k d : Nat} {rest : List (Nat × Bool)} {o : Oper} {a : Act} {w : World} (ho : ops[k]? = some o) (hd : o.dst = some d) (hw : Region.wanted o (yielded ops a.tmps) = false)
    (h : wpLex P ops Q S N rest { tmps := a.tmps.setIfInBounds d undef, defers := a.defers } w) : wpLex P ops Q S N ((k, true) :: rest) a w :=
  ⟨o, undef, ho, .inr ⟨hw, rfl⟩, by rw [hd]; exact h⟩

/-- What stands behind an operation of the forced order. -/
def LexQ (P : Program) (ops : Array Oper) (Q : Exit → Act → World → Prop) (S : World → Prop) (n : Bool) (N : Nat → Bool) (rest : List (Nat × Bool)) : Exit → Act → World → Prop
  | .normal, a, w => (n = true → S w) ∧ wpLex P ops Q S N rest a w
  | e, a, w => Q e a w

theorem lexQ_normal {n : Bool} {rest : List (Nat × Bool)} {a : Act} {w : World} (hS : n = true → S w) (h : wpLex P ops Q S N rest a w) : LexQ P ops Q S n N rest .normal a w := ⟨hS, h⟩

theorem upon_post {Q1 Q2 : Exit → Act → World → Prop} (hp : ∀ c a w, Q1 (.panic c) a w → Q2 (.panic c) a w) (ho : ∀ a w, Q1 .outgrown a w → Q2 .outgrown a w) {o : Oper} {a : Act} {w : World} {K : Act → World → Prop}
    (h : o.wp P a w K Q1) : o.wp P a w K Q2 := by
  unfold Oper.wp at *
  generalize (execOp a.eval o).run P w = r at *
  cases r with
  | ok n w' =>
    cases n <;> simp only [Oper.upon] at h ⊢
    case value u => exact h
    case skip => exact h
    case defer d => exact h
    case enter f args =>
      refine Calls.mono h fun e w'' he => ?_
      cases e with
      | returned u => exact he
      | panicked c => exact hp _ _ _ he
      | outgrown => obtain ⟨a', w3, h3⟩ := he; exact ⟨a', w3, ho _ _ h3⟩
    case row row args => exact h
  | halt x w' =>
    cases x <;> simp only [Oper.upon] at h ⊢
    case panic u => exact hp _ _ _ h

/-- An operation of the forced order: a list of one operation, for the walk. -/
theorem lex_do {k : Nat} {rest : List (Nat × Bool)} {o : Oper} {a : Act} {w : World} (ho : ops[k]? = some o) (h : wpList P ops (LexQ P ops Q S (N k) N rest) [o] a w) :
    wpLex P ops Q S N ((k, false) :: rest) a w := by
  show wpOp P ops Q k (fun a' w' => (N k = true → S w') ∧ wpLex P ops Q S N rest a' w') a w
  unfold wpOp
  simp only [ho]
  unfold wpList at h
  split
  · rename_i hw
    rw [if_pos hw] at h
    rcases h with h | ⟨h1, a', w', h2⟩
    · exact .inl (upon_post (fun _ _ _ h => h) (fun _ _ h => h) h)
    · exact .inr ⟨h1, a', w', h2⟩
  · rename_i hw
    rw [if_neg hw] at h
    exact h
end
end Go.Proofs.Lex

namespace Go.Proofs.Lex
section
variable {P : Program} {ops : Array Oper} {Q : Exit → Act → World → Prop} {md : Region.Mode} {S : World → Prop} {N : Nat → Bool}
def lexOKt (md : Region.Mode) (ops : Array Oper) (N : Nat → Bool) : List (Nat × Bool) → Array Bool → Bool
  | [], _ => true
  | (k, true) :: rest, listed => (Region.ready md ops listed).contains k && Region.free md ops listed k && (List.range ops.size).all (fun j => j == k || N j || Region.waitsFor md ops j k) && lexOKt md ops N rest (listed.setIfInBounds k true)
  | (_, false) :: _, _ => false
def lst (l : List (Nat × Bool)) (listed : Array Bool) : Array Bool := l.foldl (fun a x => a.setIfInBounds x.1 true) listed
theorem takes_then (hsel : ∀ (j : Nat) (o : Oper) cs b, ops[j]? = some o → o.op ≠ .select cs b) (hQ : ∀ c a b w, Q (.panic c) a w → Q (.panic c) b w) {C : Act → World → Prop} {fuel : Nat} :
    ∀ (l : List (Nat × Bool)) (listed : Array Bool) (a : Act) (w : World), lexOKt md ops N l listed = true → S w → wpLex P ops (fun _ a w => C a w) S N l a w → (∀ a, C a w → wpAnyN P md ops Q S N fuel (lst l listed) a w) → wpAnyN P md ops Q S N (l.length + fuel) listed a w
  | [], listed, a, w, _, _, h, hk => by simpa [lst] using hk a h
  | (k, true) :: rest, listed, a, w, hok, hS, h, hk => by
    obtain ⟨o, v, ho, hy, h⟩ := h
    simp only [lexOKt, Bool.and_eq_true] at hok
    obtain ⟨⟨⟨h1, h2⟩, h3⟩, h4⟩ := hok
    rw [show ((k, true) :: rest).length + fuel = rest.length + fuel + 1 by simp only [List.length_cons]; omega]
    refine wpAnyN_first ho hsel (fun c a w => hQ c _ _ w) (fun j hj hne hn => ?_) _ listed a w (Region.free_spec ho h2) (by simpa using h1) hy hS (takes_then hsel hQ rest _ _ _ h4 hS h hk)
    have := List.all_eq_true.1 h3 j (List.mem_range.2 hj)
    simpa [hne, hn] using this
  | (_, false) :: _, _, _, _, hok, _, _, _ => by simp [lexOKt] at hok
theorem wpAnyN_fork {k1 k2 fuel : Nat} {o1 o2 : List (Nat × Bool)} {listed : Array Bool} {a : Act} {w : World} (hsel : ∀ (j : Nat) (o : Oper) cs b, ops[j]? = some o → o.op ≠ .select cs b) (hQ : ∀ c a b w, Q (.panic c) a w → Q (.panic c) b w)
    (hr : Region.ready md ops listed = [k1, k2]) (hn1 : N k1 = true) (hn2 : N k2 = true) (hok1 : lexOK md ops N o1 (listed.setIfInBounds k1 true) = true) (hok2 : lexOK md ops N o2 (listed.setIfInBounds k2 true) = true) (hl1 : o1.length = fuel) (hl2 : o2.length = fuel)
    (h1 : wpLex P ops Q S N ((k1, false) :: o1) a w) (h2 : wpLex P ops Q S N ((k2, false) :: o2) a w) : wpAnyN P md ops Q S N (fuel + 1) listed a w := by
  refine ⟨fun h => (by rw [hr] at h; cases h), fun i hi => ?_⟩
  rw [hr] at hi
  rcases List.mem_cons.1 hi with rfl | hi
  · refine wpOp_mono (fun a' w' h' => ⟨h'.1, ?_⟩) h1
    have := wpAnyN_of_lex hsel hQ o1 _ a' w' hok1 (.inl (h'.1 hn1)) h'.2
    rw [hl1] at this
    exact this
  · obtain rfl : i = k2 := by simpa using hi
    refine wpOp_mono (fun a' w' h' => ⟨h'.1, ?_⟩) h2
    have := wpAnyN_of_lex hsel hQ o2 _ a' w' hok2 (.inl (h'.1 hn2)) h'.2
    rw [hl2] at this
    exact this
theorem fork_nil {A B : Act → World → Prop} {a : Act} {w : World} (h1 : A a w) (h2 : B a w) : wpLex P ops (fun _ a w => A a w ∧ B a w) S N [] a w := ⟨h1, h2⟩
/-- THE BEGINNING. -/
theorem wp_region_fork {id : Nat} {l : List Oper} {a : Act} {w : World} (S : World → Prop) (N : Nat → Bool) (pre : List (Nat × Bool)) (k1 k2 : Nat) (o1 o2 : List (Nat × Bool)) (hm : P.follows .mixedOrders = true)
    (hsel : Region.noSelect l.toArray = true) (hlen : pre.length + (o1.length + 1) = l.toArray.size) (hlen2 : o2.length = o1.length) (hok : lexOKt .any l.toArray N pre (Array.replicate l.toArray.size false) = true)
    (hr : Region.ready .any l.toArray (lst pre (Array.replicate l.toArray.size false)) = [k1, k2]) (hn1 : N k1 = true) (hn2 : N k2 = true)
    (hok1 : lexOK .any l.toArray N o1 ((lst pre (Array.replicate l.toArray.size false)).setIfInBounds k1 true) = true) (hok2 : lexOK .any l.toArray N o2 ((lst pre (Array.replicate l.toArray.size false)).setIfInBounds k2 true) = true)
    (hS : S w.drew) (h : wpLex P l.toArray (fun _ a w => wpLex P l.toArray (NoPanic Q) S N ((k1, false) :: o1) a w ∧ wpLex P l.toArray (NoPanic Q) S N ((k2, false) :: o2) a w) S N pre a w.drew) : (Code.region id l.toArray true).wp P Q a w := by
  refine wp_region_noPanic (wp_region_any hm (wpAny_of_N (S := S) (N := N) _ _ _ _ ?_))
  have := takes_then (Q := NoPanic Q) (fuel := o1.length + 1) (C := fun a w => wpLex P l.toArray (NoPanic Q) S N ((k1, false) :: o1) a w ∧ wpLex P l.toArray (NoPanic Q) S N ((k2, false) :: o2) a w) (Region.noSelect_spec hsel) (fun c a b w h => h) pre _ a w.drew hok hS h
    (fun a hc => wpAnyN_fork (Region.noSelect_spec hsel) (fun c a b w h => h) hr hn1 hn2 hok1 hok2 rfl hlen2 hc.1 hc.2)
  rw [hlen] at this
  exact this
end
end Go.Proofs.Lex

namespace Go.Proofs.Lex
/-- The orders that are left. -/
inductive PT where
  | done : PT
  | one (k : Nat) (t : PT) : PT
  | two (k1 : Nat) (t1 : PT) (k2 : Nat) (t2 : PT) : PT
section
variable {P : Program} {ops : Array Oper} {Q : Exit → Act → World → Prop} {md : Region.Mode} {S : World → Prop}
def PT.depth : PT → Nat
  | done => 0
  | one _ t => t.depth + 1
  | two _ t1 _ t2 => max t1.depth t2.depth + 1
def wpPT (P : Program) (ops : Array Oper) (Q : Exit → Act → World → Prop) (S : World → Prop) : PT → Act → World → Prop
  | .done, a, w => Q .normal a w
  | .one k t, a, w => wpOp P ops Q k (fun a' w' => S w' ∧ wpPT P ops Q S t a' w') a w
  | .two k1 t1 k2 t2, a, w => wpOp P ops Q k1 (fun a' w' => S w' ∧ wpPT P ops Q S t1 a' w') a w ∧ wpOp P ops Q k2 (fun a' w' => S w' ∧ wpPT P ops Q S t2 a' w') a w
def ptOK (md : Region.Mode) (ops : Array Oper) : PT → Array Bool → Bool
  | .done, l => (Region.ready md ops l).isEmpty
  | .one k t, l => decide (Region.ready md ops l = [k]) && ptOK md ops t (l.setIfInBounds k true)
  | .two k1 t1 k2 t2, l => decide (Region.ready md ops l = [k1, k2]) && ptOK md ops t1 (l.setIfInBounds k1 true) && ptOK md ops t2 (l.setIfInBounds k2 true)
theorem wpAnyN_of_pt : ∀ (t : PT) (fuel : Nat) (listed : Array Bool) (a : Act) (w : World), t.depth ≤ fuel → ptOK md ops t listed = true → wpPT P ops Q S t a w → wpAnyN P md ops Q S (fun _ => true) fuel listed a w
  | .done, 0, listed, a, w, _, hok, h => ⟨by simpa [ptOK] using hok, h⟩
  | .done, fuel + 1, listed, a, w, _, hok, h => by
    have hr : Region.ready md ops listed = [] := by simpa [ptOK] using hok
    exact ⟨fun _ => h, fun i hi => by rw [hr] at hi; cases hi⟩
  | .one k t, 0, _, _, _, hd, _, _ => by simp [PT.depth] at hd
  | .one k t, fuel + 1, listed, a, w, hd, hok, h => by
    simp only [ptOK, Bool.and_eq_true, decide_eq_true_eq] at hok
    simp only [PT.depth] at hd
    refine ⟨fun hr => (by rw [hok.1] at hr; cases hr), fun i hi => ?_⟩
    rw [hok.1] at hi
    obtain rfl : i = k := by simpa using hi
    exact wpOp_mono (fun a' w' h' => ⟨fun _ => h'.1, wpAnyN_of_pt t fuel _ a' w' (by omega) hok.2 h'.2⟩) h
  | .two k1 t1 k2 t2, 0, _, _, _, hd, _, _ => by simp [PT.depth] at hd
  | .two k1 t1 k2 t2, fuel + 1, listed, a, w, hd, hok, h => by
    simp only [ptOK, Bool.and_eq_true, decide_eq_true_eq] at hok
    simp only [PT.depth] at hd
    refine ⟨fun hr => (by rw [hok.1.1] at hr; cases hr), fun i hi => ?_⟩
    rw [hok.1.1] at hi
    rcases List.mem_cons.1 hi with rfl | hi
    · exact wpOp_mono (fun a' w' h' => ⟨fun _ => h'.1, wpAnyN_of_pt t1 fuel _ a' w' (by omega) hok.1.2 h'.2⟩) h.1
    · obtain rfl : i = k2 := by simpa using hi
      exact wpOp_mono (fun a' w' h' => ⟨fun _ => h'.1, wpAnyN_of_pt t2 fuel _ a' w' (by omega) hok.2 h'.2⟩) h.2
/-- THE BEGINNING. -/
theorem wp_region_plan {id : Nat} {l : List Oper} {a : Act} {w : World} (S : World → Prop) (pre : List (Nat × Bool)) (t : PT) (hm : P.follows .mixedOrders = true)
    (hsel : Region.noSelect l.toArray = true) (hlen : pre.length + t.depth = l.toArray.size) (hok : lexOKt .any l.toArray (fun _ => true) pre (Array.replicate l.toArray.size false) = true)
    (hpt : ptOK .any l.toArray t (lst pre (Array.replicate l.toArray.size false)) = true)
    (hS : S w.drew) (h : wpLex P l.toArray (fun _ a w => wpPT P l.toArray (NoPanic Q) S t a w) S (fun _ => true) pre a w.drew) : (Code.region id l.toArray true).wp P Q a w := by
  refine wp_region_noPanic (wp_region_any hm (wpAny_of_N (S := S) (N := fun _ => true) _ _ _ _ ?_))
  have := takes_then (Q := NoPanic Q) (fuel := t.depth) (C := fun a w => wpPT P l.toArray (NoPanic Q) S t a w) (Region.noSelect_spec hsel) (fun c a b w h => h) pre _ a w.drew hok hS h
    (fun a hc => wpAnyN_of_pt t _ _ _ _ (Nat.le_refl _) hpt hc)
  rw [hlen] at this
  exact this
theorem pre_nil {t : PT} {N : Nat → Bool} {a : Act} {w : World} (h : wpPT P ops Q S t a w) : wpLex P ops (fun _ a w => wpPT P ops Q S t a w) S N [] a w := h
/-- What stands behind an operation of the plan. -/
def PTQ (P : Program) (ops : Array Oper) (Q : Exit → Act → World → Prop) (S : World → Prop) (t : PT) : Exit → Act → World → Prop
  | .normal, a, w => S w ∧ wpPT P ops Q S t a w
  | e, a, w => Q e a w
theorem ptQ_normal {t : PT} {a : Act} {w : World} (hS : S w) (h : wpPT P ops Q S t a w) : PTQ P ops Q S t .normal a w := ⟨hS, h⟩
theorem pt_one {k : Nat} {t : PT} {o : Oper} {a : Act} {w : World} (ho : ops[k]? = some o) (h : wpList P ops (PTQ P ops Q S t) [o] a w) : wpPT P ops Q S (.one k t) a w := by
  show wpOp P ops Q k (fun a' w' => S w' ∧ wpPT P ops Q S t a' w') a w
  unfold wpOp
  simp only [ho]
  unfold wpList at h
  split
  · rename_i hw
    rw [if_pos hw] at h
    rcases h with h | ⟨h1, a', w', h2⟩
    · exact .inl (upon_post (fun _ _ _ h => h) (fun _ _ h => h) h)
    · exact .inr ⟨h1, a', w', h2⟩
  · rename_i hw
    rw [if_neg hw] at h
    exact h
theorem pt_two {k1 k2 : Nat} {t1 t2 : PT} {a : Act} {w : World} (h1 : wpPT P ops Q S (.one k1 t1) a w) (h2 : wpPT P ops Q S (.one k2 t2) a w) : wpPT P ops Q S (.two k1 t1 k2 t2) a w := ⟨h1, h2⟩
theorem pt_done {a : Act} {w : World} (h : Q .normal a w) : wpPT P ops (NoPanic Q) S .done a w := h
end
end Go.Proofs.Lex
