/- Texts Rf Rh Ri Lz in one. -/
import Derived.RangeFuncNested
import Derived.RangeFuncBound
import Derived.RangeFuncCalls
import Derived.Test.YtobpacebpiabcaaDoorW
import Derived.Test.YtobpacebpiabcaaDoorPkLex
import Derived.OrdersIn
import Derived.TacticsIn
namespace Go.Proofs.YtobpacebpiabcaaDoor
open Go.RowKit

variable {F : Fence} {n : Nat} {P : Program}

/-- The blocks of C lie as they lay; nothing is taken away. -/
structure Keep (C : List Nat) (w w' : World) : Prop where
  os : w'.os = w.os
  tape : w'.tape = w.tape
  output : w'.output = w.output
  size : w.heap.size ≤ w'.heap.size
  block : ∀ k ∈ C, k < w.heap.size → w'.heap[k]? = w.heap[k]?
theorem Fr.keep {S C : List Nat} {w w' : World} (h : Fr S w w') (hC : ∀ k ∈ C, k ∉ S) : Keep C w w' := ⟨h.os, h.tape, h.output, h.size, fun k hk hl => h.block k hl (hC k hk)⟩
theorem Keep.mono {C D : List Nat} {w w' : World} (h : Keep C w w') (hD : ∀ k ∈ D, k ∈ C) : Keep D w w' := ⟨h.os, h.tape, h.output, h.size, fun k hk => h.block k (hD k hk)⟩
theorem Keep.trans {C : List Nat} {a b c : World} (h : Keep C a b) (k : Keep C b c) : Keep C a c :=
  ⟨k.os.trans h.os, k.tape.trans h.tape, k.output.trans h.output, Nat.le_trans h.size k.size, fun i hi hl => (k.block i hi (Nat.lt_of_lt_of_le hl h.size)).trans (h.block i hi hl)⟩
theorem Keep.refl (C : List Nat) (w : World) : Keep C w w := ⟨rfl, rfl, rfl, Nat.le_refl _, fun _ _ _ => rfl⟩
theorem Below.keep {B : Nat} {C : List Nat} {w w' : World} (h : Below B w w') (hC : ∀ k ∈ C, k < B) : Keep C w w' := ⟨h.os, h.tape, h.output, h.size, fun k hk _ => h.block k (hC k hk)⟩

end Go.Proofs.YtobpacebpiabcaaDoor

namespace Go.Proofs.YtobpacebpiabcaaDoor
open Go.RowKit

/-- A region ends by its end. -/
def OnlyN (Q : Exit → Act → World → Prop) : Exit → Act → World → Prop
  | .normal, a, w => Q .normal a w
  | _, _, _ => False
theorem OnlyN.imp {Q : Exit → Act → World → Prop} : ∀ (e : Exit) (a : Act) (w : World), OnlyN Q e a w → Q e a w := fun e a w h => by
  cases e <;> first | exact h | exact (h : False).elim
section
variable {n lp : Nat} {P : Program} {ops : Array Oper} {Q : Exit → Act → World → Prop}

end

section
variable {n lp : Nat} {P : Program} {Q : Exit → Act → World → Prop} {S : World → Prop} {N : Nat → Bool}
end

end Go.Proofs.YtobpacebpiabcaaDoor

namespace Go.Proofs.YtobpacebpiabcaaDoor
open Go.RowKit
namespace Take
open Go.Proofs.Lex

section
variable {P : Program} {ops : Array Oper} {Q : Exit → Act → World → Prop} {md : Region.Mode} {S : World → Prop} {N : Nat → Bool}

/-- What stands behind one operation. -/
def StepQ (Q : Exit → Act → World → Prop) (K : Act → World → Prop) : Exit → Act → World → Prop
  | .normal, a, w => K a w
  | e, a, w => Q e a w

end
end Take

variable {n lp : Nat} {P : Program} {Q : Exit → Act → World → Prop}
end Go.Proofs.YtobpacebpiabcaaDoor

namespace Go.Proofs.Lex
open Go.Proofs.YtobpacebpiabcaaDoor Go.RowKit

section
variable {P : Program} {ops : Array Oper} {Q : Exit → Act → World → Prop} {md : Region.Mode} {S : World → Prop} {N : Nat → Bool}

/-- What an operation waits for. -/
def deps (md : Region.Mode) (ops : Array Oper) (i : Nat) : List Nat :=
  match ops[i]? with
  | some o => ((o.after.toList.filter (fun e => Region.binds md e)).map (fun e => e.on))
  | none => []
def depsBelow (md : Region.Mode) (ops : Array Oper) : Bool := (List.range ops.size).all (fun i => (deps md ops i).all (fun j => decide (j < i)))

theorem ready_deps {listed : Array Bool} {i : Nat} (h : i ∈ Region.ready md ops listed) : listed.getD i true = false ∧ i < ops.size ∧ ∀ d ∈ deps md ops i, listed.getD d false = true := by
  obtain ⟨h1, o, ho, h3⟩ := mem_ready.1 h
  refine ⟨h1, (Array.getElem?_eq_some_iff.1 ho).1, fun d hd => ?_⟩
  simp only [deps, ho, List.mem_map, List.mem_filter, Array.mem_toList_iff] at hd
  obtain ⟨e, ⟨he, hb⟩, rfl⟩ := hd
  exact h3 e he hb
theorem ready_ne (hd : depsBelow md ops = true) {listed : Array Bool} (hsz : listed.size = ops.size) : ∀ j, listed.getD j true = false → Region.ready md ops listed ≠ [] := by
  intro j
  induction j using Nat.strongRecOn with
  | ind j ih =>
    intro hj
    have hlt : j < ops.size := by
      rcases Nat.lt_or_ge j listed.size with h | h
      · omega
      · simp [Array.getElem?_eq_none h] at hj
    have hdj := List.all_eq_true.1 hd j (List.mem_range.2 hlt)
    by_cases hall : ∀ d ∈ deps md ops j, listed.getD d false = true
    · intro he
      have : j ∈ Region.ready md ops listed := by
        refine mem_ready.2 ⟨hj, ops[j], by simp [hlt], fun e he hb => hall _ ?_⟩
        simp only [deps, Array.getElem?_eq_getElem hlt, List.mem_map, List.mem_filter, Array.mem_toList_iff]
        exact ⟨e, ⟨he, hb⟩, rfl⟩
      rw [he] at this
      cases this
    · simp only [Classical.not_forall] at hall
      obtain ⟨d, hdm, hdf⟩ := hall
      have hlt2 : d < j := by simpa using List.all_eq_true.1 hdj d hdm
      refine ih d hlt2 ?_
      have hl : d < listed.size := by omega
      simp [hl] at hdf ⊢
      exact hdf
theorem free_mono {l1 l2 : Array Bool} {i : Nat} (hl : ∀ j, l1.getD j true = true → l2.getD j true = true) (h : Region.free md ops l1 i = true) : Region.free md ops l2 i = true := by
  unfold Region.free at *
  split at h
  · exact h
  · rw [List.all_eq_true] at h ⊢
    intro j hj
    have := h j hj
    simp only [Bool.or_eq_true] at this ⊢
    rcases this with (h1 | h1) | h1
    · exact .inl (.inl h1)
    · exact .inl (.inr (hl j h1))
    · exact .inr h1

/-- The frame: the slots of those operations that are done. -/
def fr : List (Nat × Nat) → (Nat → Bool) → (Nat → Value) → Act → Act
  | [], _, _, a => a
  | x :: r, done, σ, a => fr r done σ (if done x.1 then a.put (some x.2) (σ x.1) else a)
/-- All are done. -/
def full : List (Nat × Nat) → (Nat → Value) → Act → Act
  | [], _, a => a
  | x :: r, σ, a => full r σ (a.put (some x.2) (σ x.1))

def Agree (ops : Array Oper) (o : Oper) (a b : Act) : Prop := a.tmps.size = b.tmps.size ∧ ∀ k ∈ o.looksAt ops, a.tmps[k]? = b.tmps[k]?
theorem Agree.exec {o : Oper} {a b : Act} (h : Agree ops o a b) (hs : ∀ cs b, o.op ≠ .select cs b) : execOp a.eval o = execOp b.eval o := by
  refine execOp_congr o hs fun x hx => ?_
  cases x with
  | tmp t =>
    have := h.2 t (List.mem_append_left _ (List.mem_filterMap.2 ⟨.tmp t, by simpa using hx, rfl⟩))
    simp only [Act.eval, Array.getD_eq_getD_getElem?, this]
  | _ => rfl
theorem Agree.wanted {o : Oper} {a b : Act} (h : Agree ops o a b) : Region.wanted o (yielded ops a.tmps) = Region.wanted o (yielded ops b.tmps) := by
  unfold Region.wanted
  cases hg : o.guard with
  | none => rfl
  | some gw =>
    obtain ⟨g, want⟩ := gw
    have hy : yielded ops a.tmps g = yielded ops b.tmps g := by
      unfold yielded
      cases ht : (ops[g]?).bind (·.dst) with
      | none => rfl
      | some t =>
        have := h.2 t (by simp [Oper.looksAt, hg, ht])
        simp [this]
    simp only [hy]
theorem Agree.put {o : Oper} {a b : Act} (h : Agree ops o a b) (d : Nat) (v : Value) : Agree ops o (a.put (some d) v) (b.put (some d) v) := by
  refine ⟨by simp [Act.put, h.1], fun k hk => ?_⟩
  have := h.2 k hk
  simp only [Act.put, Array.getElem?_setIfInBounds, h.1, this]
theorem Agree.put_right {o : Oper} {a b : Act} (h : Agree ops o a b) {d : Nat} (hd : d ∉ o.looksAt ops) (v : Value) : Agree ops o a (b.put (some d) v) := by
  refine ⟨by simp [Act.put, h.1], fun k hk => ?_⟩
  have hne : d ≠ k := fun e => hd (e ▸ hk)
  simp [Act.put, Array.getElem?_setIfInBounds_ne hne, h.2 k hk]
theorem fr_agree {o : Oper} {done : Nat → Bool} {σ : Nat → Value} : ∀ (bs : List (Nat × Nat)) (a b : Act), Agree ops o a b → (∀ x ∈ bs, done x.1 = false → x.2 ∉ o.looksAt ops) → Agree ops o (fr bs done σ a) (full bs σ b)
  | [], _, _, h, _ => h
  | x :: r, a, b, h, hl => by
    refine fr_agree r _ _ ?_ (fun y hy => hl y (List.mem_cons_of_mem _ hy))
    cases hx : done x.1 with
    | true => exact h.put _ _
    | false => exact h.put_right (hl x List.mem_cons_self hx) _
theorem fr_congr {done done' : Nat → Bool} {σ σ' : Nat → Value} : ∀ (bs : List (Nat × Nat)) (a : Act), (∀ x ∈ bs, done x.1 = done' x.1) → (∀ x ∈ bs, done x.1 = true → σ x.1 = σ' x.1) → fr bs done σ a = fr bs done' σ' a
  | [], _, _, _ => rfl
  | x :: r, a, h1, h2 => by
    unfold fr
    rw [← h1 x List.mem_cons_self]
    cases hx : done x.1 with
    | true =>
      simp only [if_true]
      rw [h2 x List.mem_cons_self hx]
      exact fr_congr r _ (fun y hy => h1 y (List.mem_cons_of_mem _ hy)) (fun y hy => h2 y (List.mem_cons_of_mem _ hy))
    | false => exact fr_congr r _ (fun y hy => h1 y (List.mem_cons_of_mem _ hy)) (fun y hy => h2 y (List.mem_cons_of_mem _ hy))
theorem fr_put_out {done : Nat → Bool} {σ : Nat → Value} {d : Nat} {v : Value} : ∀ (bs : List (Nat × Nat)) (a : Act), d ∉ bs.map (·.2) → (fr bs done σ a).put (some d) v = fr bs done σ (a.put (some d) v)
  | [], _, _ => rfl
  | x :: r, a, h => by
    unfold fr
    rw [fr_put_out r _ (fun h' => h (List.mem_cons_of_mem _ h'))]
    cases hx : done x.1 with
    | true =>
      simp only [if_true]
      rw [Act.put_comm]
      intro e he he2
      refine h ?_
      simp at he he2
      simp [he, he2]
    | false => rfl
theorem fr_put {done : Nat → Bool} {σ : Nat → Value} {v : Value} {x : Nat × Nat} : ∀ (bs : List (Nat × Nat)) (a : Act), (bs.map (·.1)).Nodup → (bs.map (·.2)).Nodup → x ∈ bs → done x.1 = false →
    (fr bs done σ a).put (some x.2) v = fr bs (fun j => done j || j == x.1) (fun j => if j = x.1 then v else σ j) a
  | [], _, _, _, h, _ => by cases h
  | y :: r, a, n1, n2, h, hx => by
    simp only [List.map_cons, List.nodup_cons] at n1 n2
    rcases List.mem_cons.1 h with rfl | h
    · unfold fr
      simp only [hx, Bool.false_eq_true, if_false, Bool.false_or, beq_self_eq_true, if_true]
      rw [fr_put_out r _ n2.1]
      refine fr_congr r _ (fun z hz => ?_) (fun z hz _ => ?_)
      · have : z.1 ≠ x.1 := fun e => n1.1 (e ▸ List.mem_map_of_mem hz)
        simp [this]
      · have : z.1 ≠ x.1 := fun e => n1.1 (e ▸ List.mem_map_of_mem hz)
        simp [this]
    · have hne : y.1 ≠ x.1 := fun e => n1.1 (e ▸ List.mem_map_of_mem h)
      unfold fr
      rw [fr_put r _ n1.2 n2.2 h hx]
      simp only [hne, beq_iff_eq, Bool.or_eq_true, or_false, if_false]
theorem fr_full {σ : Nat → Value} : ∀ (bs : List (Nat × Nat)) (done : Nat → Bool) (a : Act), (∀ x ∈ bs, done x.1 = true) → fr bs done σ a = full bs σ a
  | [], _, _, _ => rfl
  | x :: r, done, a, h => by
    unfold fr full
    rw [h x List.mem_cons_self]
    exact fr_full r done _ (fun y hy => h y (List.mem_cons_of_mem _ hy))
theorem full_size {σ : Nat → Value} : ∀ (bs : List (Nat × Nat)) (a : Act), (full bs σ a).tmps.size = a.tmps.size
  | [], _ => rfl
  | x :: r, a => by unfold full; rw [full_size r]; simp [Act.put]
theorem full_defers {σ : Nat → Value} : ∀ (bs : List (Nat × Nat)) (a : Act), (full bs σ a).defers = a.defers
  | [], _ => rfl
  | x :: r, a => by unfold full; rw [full_defers r]; rfl

/-- One operation in another frame that it does not tell apart. -/
theorem wp_conv {o : Oper} {a b : Act} {w : World} {d : Nat} {K : Act → World → Prop} {R : Value → World → Prop} (he : execOp a.eval o = execOp b.eval o) (hd : o.dst = some d) (hdb : d < b.tmps.size)
    (h : o.wp P b w (fun b' w' => b'.defers = b.defers ∧ R (b'.tmps.getD d undef) w') (fun _ _ _ => False)) (hK : ∀ v w', R v w' → K (a.put o.dst v) w') : o.wp P a w K Q := by
  unfold Oper.wp at *
  rw [he]
  have hg : ∀ v, (b.put (some d) v).tmps.getD d undef = v := fun v => by simp [Act.put, hdb]
  generalize (execOp b.eval o).run P w = r at *
  cases r with
  | ok n w' =>
    cases n <;> simp only [Oper.upon, hd] at h hK ⊢
    case value v => exact hK _ _ (hg v ▸ h.2)
    case skip => exact hK _ _ (hg undef ▸ h.2)
    case defer df =>
      have := congrArg List.length h.1
      simp [Act.put] at this
    case enter f args =>
      refine Calls.mono h fun e w'' he => ?_
      cases e with
      | returned u => exact hK _ _ (hg u ▸ he.2)
      | panicked c => exact he.elim
      | outgrown => obtain ⟨_, _, h⟩ := he; exact h.elim
    case row row args => exact Rows.mono h fun u w'' he => hK _ _ (hg u ▸ he.2)
  | halt x w' =>
    cases x <;> simp only [Oper.upon] at h ⊢

/-- What must be done ahead of some operations. -/
def clos (ops : Array Oper) : Nat → List Nat → List Nat
  | 0, l => l
  | k + 1, l => clos ops k ((List.range ops.size).filter (fun d => l.contains d || l.any (fun j => (deps .any ops j).contains d)))
theorem clos_done {done : Nat → Prop} (hcl : ∀ j, done j → ∀ d ∈ deps .any ops j, done d) : ∀ (k : Nat) (l : List Nat), (∀ j ∈ l, done j) → ∀ j ∈ clos ops k l, done j
  | 0, _, h => h
  | k + 1, l, h => clos_done hcl k _ (fun d hd => by
      simp only [List.mem_filter, Bool.or_eq_true, List.contains_iff_mem, List.any_eq_true] at hd
      rcases hd.2 with h1 | ⟨j, h1, h2⟩
      · exact h d h1
      · exact hcl j (h j h1) d h2)

/-- The static part. -/
def lfOf (ops : Array Oper) (bs : List (Nat × Nat)) : Array Bool := bs.foldl (fun l x => l.setIfInBounds x.1 true) (Array.replicate ops.size false)
def mixOK (ops : Array Oper) (bs : List (Nat × Nat)) (eag al : Nat → Bool) (rest : List (Nat × Bool)) : Bool :=
  Region.noSelect ops && decide (bs.map (·.1)).Nodup && decide (bs.map (·.2)).Nodup && depsBelow .any ops &&
  bs.all (fun x => match ops[x.1]? with
    | some o => o.dst == some x.2 && bs.all (fun y => !(o.looksAt ops).contains y.2 || (deps .any ops x.1).contains y.1) && (!eag x.1 || (Region.free .any ops (lfOf ops ((clos ops 6 (deps .any ops x.1)).map (fun j => (j, 0)))) x.1 && !al x.1))
    | none => false) &&
  (List.range ops.size).all (fun i => bs.any (fun x => x.1 == i) || rest.any (fun x => x.1 == i)) &&
  rest.all (fun r => !bs.any (fun x => x.1 == r.1) && decide (r.1 < ops.size)) &&
  (match rest with
    | [] => true
    | r1 :: rs => bs.all (fun x => (clos ops 6 (deps .any ops r1.1)).contains x.1 || (eag x.1 && (deps .any ops x.1).all (fun d => (clos ops 6 (deps .any ops r1.1)).contains d))) && rs.all (fun r => (deps .any ops r.1).any (fun j => rest.any (fun y => y.1 == j)))) &&
  lexOK .any ops (fun _ => true) rest (lfOf ops bs) && decide ((lfOf ops bs).toList.count false = rest.length)

/-- What is to be shown of one operation: eager, or in any order. -/
def Ob (P : Program) (ops : Array Oper) (S : World → Prop) (bs : List (Nat × Nat)) (eag al : Nat → Bool) (G : Nat → Value → World → Prop) (base : Act) (w0 : World) (x : Nat × Nat) : Prop :=
  ∀ (σ : Nat → Value) (w : World), S w → Below w0.heap.size w0 w → (∀ y ∈ bs, (deps .any ops x.1).contains y.1 = true → G y.1 (σ y.1) w) →
    match eag x.1, ops[x.1]? with
    | true, some o => ∃ v, YieldsIf P ops S o v (full bs σ base) ∧ G x.1 v w
    | false, some o => Region.wanted o (yielded ops (full bs σ base).tmps) = true ∧ (∀ b, b = full bs σ base → o.wp P b w (fun b' w' => b'.defers = b.defers ∧ Below w.heap.size w w' ∧ G x.1 (b'.tmps.getD x.2 undef) w' ∧ (al x.1 = true → ∀ y ∈ bs, ∀ u, al y.1 = true → G y.1 u w → u ≠ b'.tmps.getD x.2 undef)) (fun _ _ _ => False))
    | _, none => False

theorem getD_lf (bs : List (Nat × Nat)) (j : Nat) : ∀ l : Array Bool, (bs.foldl (fun l x => l.setIfInBounds x.1 true) l).getD j true = (l.getD j true || bs.any (fun x => x.1 == j)) := by
  induction bs with
  | nil => intro l; simp
  | cons x r ih =>
    intro l
    rw [List.foldl_cons, ih, List.any_cons]
    by_cases h : x.1 = j
    · subst h
      rcases Nat.lt_or_ge x.1 l.size with h | h
      · simp [h]
      · simp [Array.getElem?_eq_none h]
    · have : (x.1 == j) = false := by simpa using h
      rw [this, Bool.false_or, getD_set_ne true h]
theorem size_lf (bs : List (Nat × Nat)) : ∀ l : Array Bool, (bs.foldl (fun l x => l.setIfInBounds x.1 true) l).size = l.size := by
  induction bs with
  | nil => intro l; rfl
  | cons x r ih => intro l; rw [List.foldl_cons, ih]; simp

theorem mix_main {bs : List (Nat × Nat)} {eag al : Nat → Bool} {rest : List (Nat × Bool)} {G : Nat → Value → World → Prop} {base : Act} {w0 : World} (hok : mixOK ops bs eag al rest = true) (hQ : ∀ c a b w, Q (.panic c) a w → Q (.panic c) b w)
    (hsz : bs.all (fun x => decide (x.2 < base.tmps.size)) = true)
    (hS : ∀ w w', S w → Below w.heap.size w w' → S w') (hG : ∀ x ∈ bs, ∀ v w w', G x.1 v w → Below w.heap.size w w' → G x.1 v w')
    (hob : ∀ x ∈ bs, Ob P ops S bs eag al G base w0 x)
    (h3 : ∀ (σ : Nat → Value) (w : World), S w → Below w0.heap.size w0 w → (∀ x ∈ bs, G x.1 (σ x.1) w) → (∀ x ∈ bs, ∀ y ∈ bs, x.1 ≠ y.1 → al x.1 = true → al y.1 = true → σ x.1 ≠ σ y.1) → wpLex P ops Q S (fun _ => true) rest (full bs σ base) w) :
    ∀ (fuel : Nat) (listed : Array Bool) (σ : Nat → Value) (w : World), listed.toList.count false = fuel → listed.size = ops.size → (∀ j, listed.getD j false = true → ∀ d ∈ deps .any ops j, listed.getD d false = true) → (∀ r ∈ rest, listed.getD r.1 true = false) → S w → Below w0.heap.size w0 w →
      (∀ x ∈ bs, listed.getD x.1 true = true → G x.1 (σ x.1) w) → (∀ x ∈ bs, ∀ y ∈ bs, listed.getD x.1 true = true → listed.getD y.1 true = true → x.1 ≠ y.1 → al x.1 = true → al y.1 = true → σ x.1 ≠ σ y.1) →
      wpAnyN P .any ops Q S (fun _ => true) fuel listed (fr bs (fun j => listed.getD j true) σ base) w := by
  simp only [mixOK, Bool.and_eq_true, decide_eq_true_eq] at hok
  obtain ⟨⟨⟨⟨⟨⟨⟨⟨⟨k1, k2⟩, k3⟩, k4⟩, k5⟩, k6⟩, k7⟩, k8⟩, k9⟩, k10⟩ := hok
  have hsel := Region.noSelect_spec k1
  intro fuel
  induction fuel with
  | zero =>
    intro listed σ w hf hs hcl hr hSw hb hg hd
    have hall : ∀ j, listed.getD j true = true := fun j => by
      cases hj : listed.getD j true with
      | true => rfl
      | false =>
        have := count_set_true _ _ (getD_false hj)
        omega
    have hre : Region.ready .any ops listed = [] := by
      rw [List.eq_nil_iff_forall_not_mem]
      intro j hj
      have := (mem_ready.1 hj).1
      rw [hall] at this
      cases this
    have hrest : rest = [] := by
      cases hrs : rest with
      | nil => rfl
      | cons r rs => have := hr r (by rw [hrs]; exact List.mem_cons_self); rw [hall] at this; cases this
    have := h3 σ w hSw hb (fun x hx => hg x hx (hall _)) (fun x hx y hy => hd x hx y hy (hall _) (hall _))
    rw [hrest] at this
    rw [fr_full bs _ _ (fun x _ => hall _)]
    exact ⟨hre, this⟩
  | succ fuel ih =>
    intro listed σ w hf hs hcl hr hSw hb hg hd
    by_cases hdone : ∀ x ∈ bs, listed.getD x.1 true = true
    · have hLF : listed = lfOf ops bs := by
        refine Array.ext (by unfold lfOf; rw [size_lf, hs]; simp) (fun j h1 h2 => ?_)
        have e1 : listed[j] = listed.getD j true := by simp [h1]
        have e2 : (lfOf ops bs)[j] = (lfOf ops bs).getD j true := by simp [h2]
        rw [e1, e2]
        unfold lfOf
        rw [getD_lf]
        have hj : j < ops.size := by omega
        have := List.all_eq_true.1 k6 j (List.mem_range.2 hj)
        have hrep : (Array.replicate ops.size false).getD j true = false := by simp [hj]
        rw [hrep, Bool.false_or]
        rcases Bool.or_eq_true _ _ ▸ this with h | h
        · rw [h]
          obtain ⟨x, hx, hxe⟩ := List.any_eq_true.1 h
          have := hdone x hx
          rw [beq_iff_eq.1 hxe] at this
          exact this
        · obtain ⟨r, hr1, hre⟩ := List.any_eq_true.1 h
          have e3 := hr r hr1
          rw [beq_iff_eq.1 hre] at e3
          rw [e3]
          have := List.all_eq_true.1 k7 r hr1
          simp only [Bool.and_eq_true, Bool.not_eq_true'] at this
          rw [← beq_iff_eq.1 hre]
          exact this.1.symm
      have := h3 σ w hSw hb (fun x hx => hg x hx (hdone x hx)) (fun x hx y hy => hd x hx y hy (hdone x hx) (hdone y hy))
      rw [fr_full bs _ _ hdone]
      rw [hLF] at hf ⊢
      rw [k10] at hf
      rw [← hf]
      exact wpAnyN_of_lex hsel hQ rest _ _ w k9 (.inl hSw) this
    · simp only [Classical.not_forall] at hdone
      obtain ⟨z, hz, hzf⟩ := hdone
      have hzf : listed.getD z.1 true = false := by simpa using hzf
      -- what is ready is one of the first ones
      have hin : (¬ ∃ x ∈ bs, eag x.1 = true ∧ x.1 ∈ Region.ready .any ops listed) → ∀ i ∈ Region.ready .any ops listed, ∃ x ∈ bs, x.1 = i := fun hnoe i hi => by
        obtain ⟨g1, g2, g3⟩ := ready_deps hi
        have := List.all_eq_true.1 k6 i (List.mem_range.2 g2)
        rcases Bool.or_eq_true _ _ ▸ this with h | h
        · obtain ⟨x, hx, hxe⟩ := List.any_eq_true.1 h
          exact ⟨x, hx, beq_iff_eq.1 hxe⟩
        · exfalso
          obtain ⟨r, hr1, hre⟩ := List.any_eq_true.1 h
          have hre := beq_iff_eq.1 hre
          subst hre
          have notdone : ∀ j, listed.getD j true = false → j ∈ deps .any ops r.1 → False := fun j h1 h2 => by
            have h3 := g3 j h2
            rcases Nat.lt_or_ge j listed.size with h | h
            · simp [h] at h1 h3; rw [h1] at h3; cases h3
            · simp [Array.getElem?_eq_none h] at h3
          cases hrs : rest with
          | nil => rw [hrs] at hr1; cases hr1
          | cons r1 rs =>
            rw [hrs] at k8
            simp only [Bool.and_eq_true] at k8
            rw [hrs] at hr1
            rcases List.mem_cons.1 hr1 with h | h
            · subst h
              have := List.all_eq_true.1 k8.1 z hz
              have hclos := clos_done (ops := ops) (done := fun j => listed.getD j false = true) hcl 6 _ g3
              rcases Bool.or_eq_true _ _ ▸ this with this | this
              · have h3 := hclos z.1 (by simpa using this)
                rcases Nat.lt_or_ge z.1 listed.size with h | h
                · simp [h] at hzf h3; rw [hzf] at h3; cases h3
                · simp [Array.getElem?_eq_none h] at h3
              · simp only [Bool.and_eq_true] at this
                refine hnoe ⟨z, hz, this.1, ?_⟩
                have hz5 := List.all_eq_true.1 k5 z hz
                split at hz5
                · rename_i o ho
                  refine mem_ready.2 ⟨hzf, o, ho, fun e he hb => ?_⟩
                  have hd : e.on ∈ deps .any ops z.1 := by
                    simp only [deps, ho, List.mem_map, List.mem_filter, Array.mem_toList_iff]
                    exact ⟨e, ⟨he, hb⟩, rfl⟩
                  exact hclos e.on (by simpa using List.all_eq_true.1 this.2 e.on hd)
                · cases hz5
            · have := List.all_eq_true.1 k8.2 r h
              obtain ⟨j, hj, hj2⟩ := List.any_eq_true.1 this
              obtain ⟨y, hy, hy2⟩ := List.any_eq_true.1 hj2
              have hy2 := beq_iff_eq.1 hy2
              subst hy2
              exact notdone y.1 (hr y (by rw [hrs]; exact hy)) hj
      -- the frame
      have hfacts : ∀ x ∈ bs, x.1 ∈ Region.ready .any ops listed → ∃ o, ops[x.1]? = some o ∧ o.dst = some x.2 ∧ Agree ops o (fr bs (fun j => listed.getD j true) σ base) (full bs σ base) ∧ (eag x.1 = true → Region.free .any ops listed x.1 = true ∧ al x.1 = false) ∧ (∀ y ∈ bs, (deps .any ops x.1).contains y.1 = true → G y.1 (σ y.1) w) := fun x hx hxr => by
        have := List.all_eq_true.1 k5 x hx
        obtain ⟨g1, g2, g3⟩ := ready_deps hxr
        have done : ∀ j ∈ deps .any ops x.1, listed.getD j true = true := fun j hj => by
          have h3 := g3 j hj
          rcases Nat.lt_or_ge j listed.size with h | h
          · simpa [h] using h3
          · simp [Array.getElem?_eq_none h] at h3
        split at this
        · rename_i o ho
          simp only [Bool.and_eq_true, beq_iff_eq] at this
          obtain ⟨⟨a1, a2⟩, a3⟩ := this
          refine ⟨o, ho, a1, fr_agree bs _ _ ⟨rfl, fun _ _ => rfl⟩ (fun y hy hyf hl => ?_), fun he => ?_, fun y hy hyd => hg y hy (done y.1 (by simpa using hyd))⟩
          · have := List.all_eq_true.1 a2 y hy
            simp only [Bool.or_eq_true, Bool.not_eq_true'] at this
            rcases this with h | h
            · have : (o.looksAt ops).contains y.2 = true := by simpa using hl
              rw [h] at this; cases this
            · have := done y.1 (by simpa using h)
              rw [hyf] at this; cases this
          · rw [he] at a3
            simp only [Bool.not_true, Bool.false_or, Bool.and_eq_true, Bool.not_eq_true'] at a3
            refine ⟨free_mono (fun j hj => ?_) a3.1, a3.2⟩
            rcases Nat.lt_or_ge j ops.size with h | h
            · unfold lfOf at hj
              rw [getD_lf] at hj
              have hrep : (Array.replicate ops.size false).getD j true = false := by simp [h]
              rw [hrep, Bool.false_or] at hj
              obtain ⟨y, hy, hye⟩ := List.any_eq_true.1 hj
              obtain ⟨j', hj', rfl⟩ := List.mem_map.1 hy
              have hye := beq_iff_eq.1 hye
              dsimp only at hye
              subst hye
              have h3 := clos_done (ops := ops) (done := fun j => listed.getD j false = true) hcl 6 _ g3 j' hj'
              rcases Nat.lt_or_ge j' listed.size with h | h
              · simpa [h] using h3
              · simp [Array.getElem?_eq_none h] at h3
            · have : listed.size ≤ j := by omega
              simp [Array.getElem?_eq_none this]
        · cases this
      -- one operation more
      have hnext : ∀ x ∈ bs, x.1 ∈ Region.ready .any ops listed → ∀ (v : Value) (w' : World), Below w.heap.size w w' → G x.1 v w' → (al x.1 = true → ∀ y ∈ bs, ∀ u, al y.1 = true → G y.1 u w → u ≠ v) →
          wpAnyN P .any ops Q S (fun _ => true) fuel (listed.setIfInBounds x.1 true) ((fr bs (fun j => listed.getD j true) σ base).put (some x.2) v) w' := fun x hx hxr v w' hbw hgv hal => by
        obtain ⟨g1, g2, g3⟩ := ready_deps hxr
        have hlt : x.1 < listed.size := by omega
        have hget : ∀ j, (listed.setIfInBounds x.1 true).getD j true = (listed.getD j true || j == x.1) := fun j => by
          by_cases h : x.1 = j
          · subst h; simp [hlt]
          · have : (j == x.1) = false := by simpa using fun e => h e.symm
            rw [this, Bool.or_false, getD_set_ne true h]
        rw [fr_put bs base k2 k3 hx g1]
        have hfr : fr bs (fun j => listed.getD j true || j == x.1) (fun j => if j = x.1 then v else σ j) base = fr bs (fun j => (listed.setIfInBounds x.1 true).getD j true) (fun j => if j = x.1 then v else σ j) base := fr_congr bs _ (fun y _ => (hget y.1).symm) (fun _ _ _ => rfl)
        rw [hfr]
        have hcnt := count_set_true _ _ (getD_false g1)
        refine ih _ _ _ (by simp only [Array.toList_setIfInBounds]; omega) (by simp [hs]) (fun j hj d hd => ?_) (fun r hr1 => ?_) (hS _ _ hSw hbw) (hb.trans (hbw.mono hb.size)) (fun y hy hyd => ?_) (fun y hy y' hy' h1 h2 hne a1 a2 => ?_)
        · have hset : ∀ j, listed.getD j false = true → (listed.setIfInBounds x.1 true).getD j false = true := fun j h => by
            by_cases h2 : x.1 = j
            · subst h2; simp [hlt]
            · rw [getD_set_ne false h2]; exact h
          by_cases h2 : x.1 = j
          · subst h2
            exact hset d (g3 d hd)
          · rw [getD_set_ne false h2] at hj
            exact hset d (hcl j hj d hd)
        · have : x.1 ≠ r.1 := fun e => by
            have := List.all_eq_true.1 k7 r hr1
            simp only [Bool.and_eq_true, Bool.not_eq_true'] at this
            have h2 : bs.any (fun y => y.1 == r.1) = true := List.any_eq_true.2 ⟨x, hx, beq_iff_eq.2 e⟩
            rw [this.1] at h2; cases h2
          rw [getD_set_ne true this]
          exact hr r hr1
        · by_cases h : y.1 = x.1
          · simp only [h, if_true]; exact hgv
          · simp only [h, if_false]
            rw [hget] at hyd
            have h' : (y.1 == x.1) = false := by simpa using h
            rw [h', Bool.or_false] at hyd
            exact hG y hy _ _ _ (hg y hy hyd) hbw
        · rw [hget] at h1 h2
          by_cases e1 : y.1 = x.1
          · by_cases e2 : y'.1 = x.1
            · exact absurd (e1.trans e2.symm) hne
            · have h' : (y'.1 == x.1) = false := by simpa using e2
              rw [h', Bool.or_false] at h2
              simp only [e1, e2, if_true, if_false]
              exact (hal (e1 ▸ a1) y' hy' _ a2 (hg y' hy' h2)).symm
          · have h' : (y.1 == x.1) = false := by simpa using e1
            rw [h', Bool.or_false] at h1
            by_cases e2 : y'.1 = x.1
            · simp only [e1, e2, if_true, if_false]
              exact hal (e2 ▸ a2) y hy _ a1 (hg y hy h1)
            · have h' : (y'.1 == x.1) = false := by simpa using e2
              rw [h', Bool.or_false] at h2
              simp only [e1, e2, if_false]
              exact hd y hy y' hy' h1 h2 hne a1 a2
      by_cases heag : ∃ x ∈ bs, eag x.1 = true ∧ x.1 ∈ Region.ready .any ops listed
      · obtain ⟨x, hx, he, hxr⟩ := heag
        obtain ⟨o, ho, hdst, hag, hfree, hgd⟩ := hfacts x hx hxr
        obtain ⟨hfr, hal⟩ := hfree he
        have hobx := hob x hx σ w hSw hb hgd
        rw [he, ho] at hobx
        obtain ⟨v, hy, hgv⟩ := hobx
        have hy' := hy.of_same (hag.exec (fun cs b => hsel x.1 o cs b ho)) hag.wanted
        have := hnext x hx hxr v w (Below.refl _ _) hgv (fun h => by rw [hal] at h; cases h)
        refine wpAnyN_first ho hsel (fun c a w => hQ c _ _ w) (fun _ _ _ h => by cases h) _ listed _ w (Region.free_spec ho hfr) hxr hy' hSw ?_
        rw [hdst]
        exact this
      · refine ⟨fun h => absurd h (ready_ne k4 hs z.1 hzf), fun i hi => ?_⟩
        obtain ⟨x, hx, rfl⟩ := hin heag i hi
        obtain ⟨o, ho, hdst, hag, _, hgd⟩ := hfacts x hx hi
        have hne : eag x.1 = false := by
          cases h : eag x.1 with
          | false => rfl
          | true => exact absurd ⟨x, hx, h, hi⟩ heag
        have hobx := hob x hx σ w hSw hb hgd
        rw [hne, ho] at hobx
        obtain ⟨hw, hwp⟩ := hobx
        have hwp := hwp _ rfl
        unfold wpOp
        simp only [ho]
        rw [hag.wanted, if_pos hw]
        refine .inl (wp_conv (R := fun v w' => Below w.heap.size w w' ∧ G x.1 v w' ∧ (al x.1 = true → ∀ y ∈ bs, ∀ u, al y.1 = true → G y.1 u w → u ≠ v)) (hag.exec (fun cs b => hsel x.1 o cs b ho)) hdst ?_ hwp (fun v w' h => ?_))
        · rw [full_size]
          have := List.all_eq_true.1 hsz x hx
          simpa using this
        · obtain ⟨h1, h2, h3⟩ := h
          rw [hdst]
          exact ⟨fun _ => hS _ _ hSw h1, hnext x hx hi v w' h1 h2 h3⟩

/-- The law. bs: the operations (number, slot), each proved alone; eag: which are taken first; al: whose values are new blocks; rest: what stands behind all of them, in one order. -/
theorem wp_region_mix {id : Nat} {l : List Oper} {a : Act} {w : World} (S : World → Prop) (bs : List (Nat × Nat)) (eag al : Nat → Bool) (rest : List (Nat × Bool)) (G : Nat → Value → World → Prop) (hm : P.follows .mixedOrders = true)
    (hok : mixOK l.toArray bs eag al rest = true) (hsz : bs.all (fun x => decide (x.2 < a.tmps.size)) = true) (hS0 : S w.drew) (hS : ∀ w w', S w → Below w.heap.size w w' → S w') (hG : ∀ x ∈ bs, ∀ v w w', G x.1 v w → Below w.heap.size w w' → G x.1 v w')
    (hob : ∀ x ∈ bs, Ob P l.toArray S bs eag al G a w.drew x)
    (h3 : ∀ (σ : Nat → Value) (w' : World), S w' → Below w.drew.heap.size w.drew w' → (∀ x ∈ bs, G x.1 (σ x.1) w') → (∀ x ∈ bs, ∀ y ∈ bs, x.1 ≠ y.1 → al x.1 = true → al y.1 = true → σ x.1 ≠ σ y.1) → wpLex P l.toArray (NoPanic Q) S (fun _ => true) rest (full bs σ a) w') : (Code.region id l.toArray true).wp P Q a w := by
  refine wp_region_noPanic (wp_region_any hm (wpAny_of_N (S := S) (N := fun _ => true) _ _ _ _ ?_))
  have hno : ∀ x ∈ bs, (Array.replicate l.toArray.size false).getD x.1 true = false := fun x hx => by
    have h5 := hok
    simp only [mixOK, Bool.and_eq_true, decide_eq_true_eq] at h5
    obtain ⟨⟨⟨⟨⟨⟨⟨⟨⟨k1, k2⟩, k3⟩, k4⟩, k5⟩, k6⟩, k7⟩, k8⟩, k9⟩, k10⟩ := h5
    have := List.all_eq_true.1 k5 x hx
    split at this
    · rename_i o ho
      have hlt := (Array.getElem?_eq_some_iff.1 ho).1
      simp only [Array.getD_eq_getD_getElem?, Array.getElem?_replicate, hlt, if_true, Option.getD_some]
    · cases this
  have hfr : fr bs (fun j => (Array.replicate l.toArray.size false).getD j true) (fun _ => undef) a = a := by
    have : ∀ (bs : List (Nat × Nat)), (∀ x ∈ bs, (Array.replicate l.toArray.size false).getD x.1 true = false) → fr bs (fun j => (Array.replicate l.toArray.size false).getD j true) (fun _ => undef) a = a := by
      intro bs
      induction bs with
      | nil => intro _; rfl
      | cons x r ih =>
        intro h
        show fr r _ _ (if (Array.replicate l.toArray.size false).getD x.1 true = true then _ else _) = a
        rw [h x List.mem_cons_self]
        exact ih (fun y hy => h y (List.mem_cons_of_mem _ hy))
    exact this bs hno
  have := mix_main (Q := NoPanic Q) hok (fun c a b w h => h) hsz hS hG hob h3 l.toArray.size (Array.replicate l.toArray.size false) (fun _ => undef) w.drew (by simp) (by simp) (fun j hj => ?_) (fun r hr => ?_) hS0 (Below.refl _ _)
    (fun x hx h => by rw [hno x hx] at h; cases h) (fun x hx _ _ h => by rw [hno x hx] at h; cases h)
  · rw [hfr] at this
    exact this
  · exfalso
    rcases Nat.lt_or_ge j l.toArray.size with h | h
    · simp only [Array.getD_eq_getD_getElem?, Array.getElem?_replicate, h, if_true, Option.getD_some] at hj
      cases hj
    · simp only [Array.getD_eq_getD_getElem?, Array.getElem?_replicate, Nat.not_lt.2 h, if_false, Option.getD_none] at hj
      cases hj
  · simp only [mixOK, Bool.and_eq_true, decide_eq_true_eq] at hok
    obtain ⟨⟨⟨⟨⟨⟨⟨⟨⟨k1, k2⟩, k3⟩, k4⟩, k5⟩, k6⟩, k7⟩, k8⟩, k9⟩, k10⟩ := hok
    have := List.all_eq_true.1 k7 r hr
    simp only [Bool.and_eq_true, decide_eq_true_eq] at this
    have h2 := this.2
    simp only [Array.getD_eq_getD_getElem?, Array.getElem?_replicate, h2, if_true, Option.getD_some]

/-- One operation that is taken first. -/
theorem ob_eager {bs : List (Nat × Nat)} {eag al : Nat → Bool} {G : Nat → Value → World → Prop} {base : Act} {w0 : World} {i d : Nat} {o : Oper} (ho : ops[i]? = some o) (he : eag i = true)
    (h : ∀ (σ : Nat → Value) (w : World), S w → Below w0.heap.size w0 w → (∀ y ∈ bs, (deps .any ops i).contains y.1 = true → G y.1 (σ y.1) w) →
      ∃ v, Region.wanted o (yielded ops (full bs σ base).tmps) = true ∧ (∀ w', S w' → (execOp (full bs σ base).eval o).run P w' = .ok (.value v) w') ∧ G i v w) : Ob P ops S bs eag al G base w0 (i, d) := by
  intro σ w hS hB hg
  obtain ⟨v, h1, h2, h3⟩ := h σ w hS hB hg
  simp only [he, ho]
  exact ⟨v, .inl ⟨h1, h2⟩, h3⟩
/-- .. in any order. -/
theorem ob_step {bs : List (Nat × Nat)} {eag al : Nat → Bool} {G : Nat → Value → World → Prop} {base : Act} {w0 : World} {i d : Nat} {o : Oper} (ho : ops[i]? = some o) (he : eag i = false) (hgd : o.guard = none)
    (h : ∀ (σ : Nat → Value) (w : World), S w → Below w0.heap.size w0 w → (∀ y ∈ bs, (deps .any ops i).contains y.1 = true → G y.1 (σ y.1) w) →
      ∀ K : Act → World → Prop, (∀ b' w', b'.defers = base.defers ∧ Below w.heap.size w w' ∧ G i (b'.tmps.getD d undef) w' ∧ (al i = true → ∀ y ∈ bs, ∀ u, al y.1 = true → G y.1 u w → u ≠ b'.tmps.getD d undef) → K b' w') →
      wpList P ops (Take.StepQ (fun _ _ _ => False) K) [o] (full bs σ base) w) : Ob P ops S bs eag al G base w0 (i, d) := by
  intro σ w hS hB hg
  have h := h σ w hS hB hg _ (fun _ _ h => h)
  have hw : Region.wanted o (yielded ops (full bs σ base).tmps) = true := by unfold Region.wanted; rw [hgd]
  simp only [he, ho]
  refine ⟨hw, fun b hb => ?_⟩
  subst hb
  rw [full_defers]
  unfold wpList at h
  rw [if_pos hw] at h
  rcases h with h | ⟨_, a', w', h⟩
  · exact upon_post (fun _ _ _ h => h.elim) (fun _ _ h => h.elim) h
  · exact h.elim
theorem all_nil {α : Type} {p : α → Prop} : ∀ x ∈ ([] : List α), p x := fun _ h => nomatch h
theorem all_cons {α : Type} {p : α → Prop} {a : α} {l : List α} (h1 : p a) (h2 : ∀ x ∈ l, p x) : ∀ x ∈ a :: l, p x := List.forall_mem_cons.2 ⟨h1, h2⟩
end
end Go.Proofs.Lex
