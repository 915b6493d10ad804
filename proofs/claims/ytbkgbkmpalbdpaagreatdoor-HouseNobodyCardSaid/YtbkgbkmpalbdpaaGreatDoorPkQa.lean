/- Texts Qa Qi Qf Qe Pq Pr in one. -/
import Derived.Test.YtbkgbkmpalbdpaaGreatDoorPkPk
import Derived.Test.YtbkgbkmpalbdpaaGreatDoorPkPg
import Derived.Test.YtbkgbkmpalbdpaaGreatDoorPkPa
namespace Go.Proofs.YtbkgbkmpalbdpaaGreatDoor
open Go.RowKit Go.Lib

/-- A tree: each node with its address, key, value, parts, height and block. -/
inductive Tr where
  | nil : Tr
  | node (p : Nat) (key value : List UInt8) (l r : Tr) (height block : Nat) : Tr
namespace Tr
def addr : Tr → Option Addr
  | nil => none
  | node p _ _ _ _ _ _ => some ⟨p, 0, none⟩
def hgt : Tr → Nat
  | nil => 0
  | node _ _ _ _ _ h _ => h
def blk : Tr → Nat
  | nil => 0
  | node _ _ _ _ _ _ b => b
def addrs : Tr → List Nat
  | nil => []
  | node p _ _ l r _ _ => p :: (l.addrs ++ r.addrs)
/-- Its pairs. -/
def flat : Tr → List (List UInt8 × List UInt8)
  | nil => []
  | node _ k v l r _ _ => l.flat ++ (k, v) :: r.flat
def htOk : Tr → Prop
  | nil => True
  | node _ _ _ l r h _ => h = 1 + max l.hgt r.hgt ∧ l.htOk ∧ r.htOk
/-- It lies in memory. -/
def At (w : World) : Tr → Prop
  | nil => True
  | node p k v l r h b => NodeB w p k v (.pointer l.addr) (.pointer r.addr) h b ∧ l.At w ∧ r.At w
/-- Every node stands on a block, and was there before base. -/
def Old (base : Nat) : Tr → Prop
  | nil => True
  | node p _ _ l r _ b => 0 < b ∧ p < base ∧ l.Old base ∧ r.Old base
/-- What is new stands on no block; beneath what is old all is old. -/
def Mix (base : Nat) : Tr → Prop
  | nil => True
  | node p _ _ l r _ b => (b = 0 ∧ base ≤ p ∧ l.Mix base ∧ r.Mix base) ∨ (0 < b ∧ p < base ∧ l.Old base ∧ r.Old base)
def cnt : Tr → Nat
  | nil => 0
  | node _ _ _ l r _ _ => l.cnt + r.cnt + 1
theorem hgt_le : ∀ t : Tr, t.htOk → t.hgt ≤ t.cnt
  | nil, _ => Nat.le_refl _
  | node _ _ _ l r h _, ⟨h1, h2, h3⟩ => by
    have := hgt_le l h2
    have := hgt_le r h3
    simp only [hgt, cnt]
    omega
theorem Old.mix {base : Nat} : ∀ {t : Tr}, t.Old base → t.Mix base
  | nil, _ => trivial
  | node _ _ _ _ _ _ _, h => .inr h
theorem At.lt {w : World} : ∀ {t : Tr}, t.At w → ∀ p ∈ t.addrs, p < w.heap.size
  | nil, _, p, h => by cases h
  | node q _ _ l r _ _, ⟨h1, h2, h3⟩, p, h => by
    simp only [addrs, List.mem_cons, List.mem_append] at h
    rcases h with h | h | h
    · rw [h]; exact Blk.lt h1
    · exact h2.lt p h
    · exact h3.lt p h
theorem At.keep {w w' : World} : ∀ {t : Tr}, t.At w → (∀ p ∈ t.addrs, w'.heap[p]? = w.heap[p]?) → t.At w'
  | nil, _, _ => trivial
  | node q _ _ l r _ _, ⟨h1, h2, h3⟩, h => ⟨(h q (by simp [addrs])).trans h1, h2.keep (fun p hp => h p (by simp [addrs, hp])), h3.keep (fun p hp => h p (by simp [addrs, hp]))⟩
theorem At.below {w w' : World} {t : Tr} (h : t.At w) (hb : Below w.heap.size w w') : t.At w' := h.keep (fun p hp => hb.block p (h.lt p hp))
theorem At.fr {w w' : World} {t : Tr} {S : List Nat} (h : t.At w) (hf : Fr S w w') (hS : ∀ p ∈ t.addrs, p ∉ S) : t.At w' := h.keep (fun p hp => hf.block p (h.lt p hp) (hS p hp))
theorem addr_ne_nil {t : Tr} (h : t.addr = none) : t = nil := by
  cases t with
  | nil => rfl
  | node => cases h
theorem str_inj {a b : List UInt8} (h : (Value.string ⟨a.toArray⟩) = .string ⟨b.toArray⟩) : a = b := by
  injection h with h
  injection h with h
  simpa using h
/-- In one memory, a tree is known by its address. -/
theorem At.det {w : World} : ∀ {t u : Tr}, t.At w → u.At w → t.addr = u.addr → t = u
  | nil, u, _, _, h => (addr_ne_nil h.symm).symm
  | node p k v l r hh b, nil, _, _, h => by cases h
  | node p k v l r hh b, node q k' v' l' r' hh' b', ⟨h1, h2, h3⟩, ⟨k1, k2, k3⟩, h => by
    have hpq : p = q := by
      simp only [addr, Option.some.injEq, Addr.mk.injEq] at h
      exact h.1
    subst hpq
    have e : w.heap[p]? = _ := h1
    have e' : w.heap[p]? = _ := k1
    rw [e] at e'
    simp only [Option.some.injEq, Obj.cells.injEq, Array.mk.injEq, List.cons.injEq, Value.int.injEq, Value.pointer.injEq] at e'
    obtain ⟨⟨e1, e2, e3, e4, e5, e6, _⟩, _⟩ := e'
    have q1 := str_inj e1
    have q2 := str_inj e2
    have q3 := h2.det k2 e3
    have q4 := h3.det k3 e4
    have q5 : hh = hh' := by omega
    have q6 : b = b' := by omega
    rw [q1, q2, q3, q4, q5, q6]
theorem childB {w : World} {t : Tr} (h : t.At w) : ChildB w (.pointer t.addr) t.blk := by
  cases t with
  | nil => exact .inl ⟨rfl, rfl⟩
  | node p k v l r hh b => exact .inr ⟨p, k, v, _, _, hh, rfl, h.1⟩
theorem Old.lt {base : Nat} : ∀ {t : Tr}, t.Old base → ∀ p ∈ t.addrs, p < base
  | nil, _, p, h => by cases h
  | node q _ _ l r _ _, ⟨_, h1, h2, h3⟩, p, h => by
    simp only [addrs, List.mem_cons, List.mem_append] at h
    rcases h with h | h | h
    · omega
    · exact h2.lt p h
    · exact h3.lt p h
end Tr
/-- A tree as commits make them. -/
structure TrG (base : Nat) (w : World) (t : Tr) : Prop where
  here : t.At w
  nd : t.addrs.Nodup
  ht : t.htOk
  mix : t.Mix base
theorem TrG.below {base : Nat} {w w' : World} {t : Tr} (h : TrG base w t) (hb : Below w.heap.size w w') : TrG base w' t := ⟨h.here.below hb, h.nd, h.ht, h.mix⟩
theorem TrG.nil (base : Nat) (w : World) : TrG base w .nil := ⟨trivial, List.nodup_nil, trivial, trivial⟩
theorem TrG.left {base : Nat} {w : World} {p h b : Nat} {k v : List UInt8} {l r : Tr} (g : TrG base w (.node p k v l r h b)) : TrG base w l := by
  have hn := g.nd
  simp only [Tr.addrs, List.nodup_cons, List.nodup_append] at hn
  exact ⟨g.here.2.1, hn.2.1, g.ht.2.1, by rcases g.mix with q | q; exact q.2.2.1; exact q.2.2.1.mix⟩
theorem TrG.right {base : Nat} {w : World} {p h b : Nat} {k v : List UInt8} {l r : Tr} (g : TrG base w (.node p k v l r h b)) : TrG base w r := by
  have hn := g.nd
  simp only [Tr.addrs, List.nodup_cons, List.nodup_append] at hn
  exact ⟨g.here.2.2, hn.2.2.1, g.ht.2.2, by rcases g.mix with q | q; exact q.2.2.2; exact q.2.2.2.mix⟩
/-- The two parts lie apart. -/
theorem TrG.parts {base : Nat} {w : World} {p h b : Nat} {k v : List UInt8} {l r : Tr} (g : TrG base w (.node p k v l r h b)) : p ∉ l.addrs ∧ p ∉ r.addrs ∧ ∀ x ∈ l.addrs, x ∉ r.addrs := by
  have hn := g.nd
  simp only [Tr.addrs, List.nodup_cons, List.nodup_append, List.mem_append, not_or] at hn
  exact ⟨hn.1.1, hn.1.2, fun x hx hx2 => hn.2.2.2 x hx x hx2 rfl⟩
/-- A function on trees: it returns a tree of which Q holds, made of parts of A and of new nodes. -/
def RetTr (base : Nat) (A : List Nat) (Q : Tr → Prop) (w : World) (e : Ending) (w' : World) : Prop := ∃ t : Tr, e = .returned (.pointer t.addr) ∧ TrG base w' t ∧ (∀ p ∈ t.addrs, p ∈ A ∨ w.heap.size ≤ p) ∧ Q t ∧ Below w.heap.size w w'
end Go.Proofs.YtbkgbkmpalbdpaaGreatDoor

namespace Go.Proofs.YtbkgbkmpalbdpaaGreatDoor
open Go.RowKit Go.Lib

/-- A node in a tree: key, value, parts, height, block. -/
abbrev Nd := List UInt8 × List UInt8 × Tr × Tr × Nat × Nat
namespace Tr
def find : Tr → Nat → Option Nd
  | nil, _ => none
  | node p k v l r h b, q => if q = p then some (k, v, l, r, h, b) else match l.find q with
    | some x => some x
    | none => r.find q
/-- The tree with new blocks. -/
def asg (f : Nat → Option Nat) : Tr → Tr
  | nil => nil
  | node p k v l r h b => node p k v (l.asg f) (r.asg f) h ((f p).getD b)
def asgN (f : Nat → Option Nat) (p : Nat) : Nd → Nd := fun x => (x.1, x.2.1, x.2.2.1.asg f, x.2.2.2.1.asg f, x.2.2.2.2.1, (f p).getD x.2.2.2.2.2)
theorem asg_addr (f : Nat → Option Nat) : ∀ t : Tr, (t.asg f).addr = t.addr
  | nil => rfl
  | node _ _ _ _ _ _ _ => rfl
theorem asg_hgt (f : Nat → Option Nat) : ∀ t : Tr, (t.asg f).hgt = t.hgt
  | nil => rfl
  | node _ _ _ _ _ _ _ => rfl
theorem asg_addrs (f : Nat → Option Nat) : ∀ t : Tr, (t.asg f).addrs = t.addrs
  | nil => rfl
  | node p _ _ l r _ _ => by simp [asg, addrs, asg_addrs f l, asg_addrs f r]
theorem asg_none : ∀ t : Tr, t.asg (fun _ => none) = t
  | nil => rfl
  | node p _ _ l r _ _ => by simp [asg, asg_none l, asg_none r]
theorem asg_find (f : Nat → Option Nat) : ∀ (t : Tr) (q : Nat), (t.asg f).find q = (t.find q).map (asgN f q)
  | nil, q => rfl
  | node p k v l r h b, q => by
    simp only [asg, find]
    by_cases e : q = p
    · subst e; simp [asgN]
    · rw [if_neg e, if_neg e, asg_find f l, asg_find f r]
      cases l.find q <;> simp
theorem At.find {w : World} : ∀ {t : Tr}, t.At w → ∀ {q : Nat} {x : Nd}, t.find q = some x → NodeB w q x.1 x.2.1 (.pointer x.2.2.1.addr) (.pointer x.2.2.2.1.addr) x.2.2.2.2.1 x.2.2.2.2.2 ∧ x.2.2.1.At w ∧ x.2.2.2.1.At w
  | nil, _, q, x, h => by cases h
  | node p k v l r hh b, ⟨h1, h2, h3⟩, q, x, h => by
    simp only [Tr.find] at h
    by_cases e : q = p
    · rw [if_pos e] at h
      injection h with h
      subst e h
      exact ⟨h1, h2, h3⟩
    · rw [if_neg e] at h
      cases hl : l.find q with
      | some y => rw [hl] at h; injection h with h; subst h; exact h2.find hl
      | none => rw [hl] at h; exact h3.find h
/-- A node is given a block. -/
theorem At.give {w : World} {f : Nat → Option Nat} {p k : Nat} : ∀ {t : Tr}, (t.asg f).At w → (t.asg (fun q => if q = p then some k else f q)).At (w.setCell ⟨p, 5, none⟩ (.int .i64 (k : Int)))
  | nil, _ => trivial
  | node q key v l r hh b, ⟨h1, h2, h3⟩ => by
    refine ⟨?_, h2.give, h3.give⟩
    rw [asg_addr, asg_addr] at h1 ⊢
    by_cases e : q = p
    · subst e
      have := Blk.set h1 5 (.int .i64 (k : Int))
      simp only [if_true, Option.getD_some]
      exact this
    · have e2 : ((fun q => if q = p then some k else f q) q) = f q := if_neg e
      rw [e2]
      exact Blk.setOther h1 _ _ e
theorem addrs_find : ∀ (t : Tr) (q : Nat), q ∈ t.addrs → ∃ x, t.find q = some x
  | nil, q, h => by cases h
  | node p k v l r hh b, q, h => by
    simp only [addrs, List.mem_cons, List.mem_append] at h
    simp only [find]
    by_cases e : q = p
    · exact ⟨_, by rw [if_pos e]⟩
    · rw [if_neg e]
      rcases h with h | h | h
      · exact absurd h e
      · obtain ⟨x, hx⟩ := addrs_find l q h
        exact ⟨x, by rw [hx]⟩
      · obtain ⟨x, hx⟩ := addrs_find r q h
        cases hl : l.find q with
        | some y => exact ⟨y, rfl⟩
        | none => exact ⟨x, hx⟩
/-- A tree whose pairs are no longer than a block takes, and whose blocks and heights are small. -/
def Fit : Tr → Prop
  | nil => True
  | node _ k v l r h b => k.length ≤ 12 ∧ v.length ≤ 24 ∧ h ≤ 1000 ∧ b ≤ 4096 ∧ l.Fit ∧ r.Fit
theorem Fit.find : ∀ {t : Tr}, t.Fit → ∀ {q : Nat} {x : Nd}, t.find q = some x → x.1.length ≤ 12 ∧ x.2.1.length ≤ 24 ∧ x.2.2.2.2.1 ≤ 1000 ∧ x.2.2.1.Fit ∧ x.2.2.2.1.Fit
  | nil, _, q, x, h => by cases h
  | node p k v l r hh b, ⟨h1, h2, h3, h4, h5, h6⟩, q, x, h => by
    simp only [Tr.find] at h
    by_cases e : q = p
    · rw [if_pos e] at h
      injection h with h
      subst h
      exact ⟨h1, h2, h3, h5, h6⟩
    · rw [if_neg e] at h
      cases hl : l.find q with
      | some y => rw [hl] at h; injection h with h; subst h; exact h5.find hl
      | none => rw [hl] at h; exact h6.find h
theorem Fit.asg {f : Nat → Option Nat} (hf : ∀ q k, f q = some k → k ≤ 4096) : ∀ {t : Tr}, t.Fit → (t.asg f).Fit
  | nil, _ => trivial
  | node p k v l r hh b, ⟨h1, h2, h3, h4, h5, h6⟩ => ⟨h1, h2, h3, by
    cases e : f p with
    | none => simpa using h4
    | some z => simpa using hf p z e, h5.asg hf, h6.asg hf⟩
theorem Fit.blk : ∀ {t : Tr}, t.Fit → t.blk ≤ 4096
  | nil, _ => Nat.zero_le _
  | node _ _ _ _ _ _ _, ⟨_, _, _, h, _⟩ => h
end Tr
/-- The blocks of the first i nodes. -/
def fA (L fl : List Nat) : Nat → Nat → Option Nat
  | 0 => fun _ => none
  | i + 1 => fun q => if q = L.getD i 0 then some (fl.getD i 0) else fA L fl i q
/-- What is written for node i. -/
def encN (t : Tr) (L fl : List Nat) (i : Nat) : List UInt8 := match t.find (L.getD i 0) with
  | some x => blockB (nodeBy x.1 x.2.1 (x.2.2.1.asg (fA L fl (i + 1))).blk (x.2.2.2.1.asg (fA L fl (i + 1))).blk x.2.2.2.2.1)
  | none => []
/-- The disk's blocks behind the first i writes, and what is loose. -/
def curW (t : Tr) (L fl : List Nat) (cur : Nat → Option (List UInt8)) : Nat → Nat → Option (List UInt8)
  | 0 => cur
  | i + 1 => updC (curW t L fl cur i) (fl.getD i 0) (encN t L fl i)
def looW (t : Tr) (L fl : List Nat) (cur : Nat → Option (List UInt8)) (lo : List (Nat × List (List UInt8))) : Nat → List (Nat × List (List UInt8))
  | 0 => lo
  | i + 1 => looW t L fl cur lo i ++ [(fl.getD i 0, [bytesOf (curW t L fl cur i (fl.getD i 0)), encN t L fl i])]
theorem fA_le {L fl : List Nat} (hf : ∀ x ∈ fl, x ≤ 4096) : ∀ (i q k : Nat), fA L fl i q = some k → k ≤ 4096
  | 0, q, k, h => by cases h
  | i + 1, q, k, h => by
    simp only [fA] at h
    split at h
    · injection h with h
      rw [← h, List.getD_eq_getElem?_getD]
      cases e : fl[i]? with
      | none => simp
      | some z => simpa using hf z (List.mem_of_getElem? e)
    · exact fA_le hf i q k h
theorem looW_keys {t : Tr} {L fl : List Nat} {cur : Nat → Option (List UInt8)} {lo : List (Nat × List (List UInt8))} : ∀ (i : Nat), ∀ x ∈ looW t L fl cur lo i, x ∈ lo ∨ ∃ j, j < i ∧ x.1 = fl.getD j 0
  | 0, x, h => .inl h
  | i + 1, x, h => by
    simp only [looW, List.mem_append, List.mem_singleton] at h
    rcases h with h | h
    · rcases looW_keys i x h with q | ⟨j, hj, q⟩
      · exact .inl q
      · exact .inr ⟨j, by omega, q⟩
    · exact .inr ⟨i, by omega, by rw [h]⟩
end Go.Proofs.YtbkgbkmpalbdpaaGreatDoor

namespace Go.Proofs.YtbkgbkmpalbdpaaGreatDoor
open Go.RowKit Go.Lib

/-- Block B is a map with these keys, each with true. -/
def MapK (w : World) (B : Nat) (K : List Int) : Prop := ∃ (es : List (Int × Value × Nat)) (c : Nat), MapI w B es c ∧ es.map (·.1) = K ∧ (∀ e ∈ es, e.2.1 = .bool true) ∧ MapKept.Stamped (es.map ent).toArray c ∧ K.Nodup
theorem MapK.lt {w : World} {B : Nat} {K : List Int} (h : MapK w B K) : B < w.heap.size := by
  obtain ⟨es, c, h1, _⟩ := h
  exact h1.lt
theorem MapK.fr {w w' : World} {B : Nat} {K : List Int} {S : List Nat} (h : MapK w B K) (hf : Fr S w w') (hB : B ∉ S) : MapK w' B K := by
  obtain ⟨es, c, h1, h2⟩ := h
  exact ⟨es, c, h1.fr hf hB, h2⟩
theorem MapK.below {w w' : World} {B : Nat} {K : List Int} (h : MapK w B K) (hb : Below w.heap.size w w') : MapK w' B K := h.fr (fr_of_below hb []) (by simp)
theorem zero_bool (w : World) : (zeroValue 4).run Tryz.prog w = .ok (.bool false) w := by kernel_rfl
theorem valE_bool (x : Int) : ∀ (es : List (Int × Value × Nat)) (j : Nat), (∀ e ∈ es, e.2.1 = .bool true) → (match posE x es j with | some p => p.2 | none => .bool false) = .bool ((es.map (·.1)).contains x)
  | [], j, _ => rfl
  | e :: es, j, h => by
    unfold posE
    by_cases c : e.1 = x
    · rw [if_pos c]
      simp [h e (by simp), c]
    · rw [if_neg c]
      have := valE_bool x es (j + 1) (fun e he => h e (by simp [he]))
      rw [this]
      have c2 : ¬ x = e.1 := fun q => c q.symm
      simp [c2]
theorem look_K {w : World} {B : Nat} {K : List Int} (h : MapK w B K) (x : Int) : (Instr.lookup 423 (.map (some B)) (.int .i64 x) false).run Tryz.prog w = .ok (.bool (K.contains x)) w := by
  obtain ⟨es, c, h1, h2, h3, _⟩ := h
  have := run_lookI Tryz.underlying423 zero_bool h1 x
  rw [this]
  exact congrArg (fun v => Result.ok v w) ((valE_bool x es 0 h3).trans (by rw [h2]))
theorem posE_key (x : Int) : ∀ (es : List (Int × Value × Nat)) (j : Nat), x ∈ es.map (·.1) → ∃ q u, posE x es j = some (q, u) ∧ j ≤ q ∧ q < j + es.length
  | [], j, h => by simp at h
  | e :: es, j, h => by
    unfold posE
    by_cases c : e.1 = x
    · rw [if_pos c]
      exact ⟨j, _, rfl, Nat.le_refl _, by simp⟩
    · rw [if_neg c]
      have hm : x ∈ es.map (·.1) := by
        simp only [List.map_cons, List.mem_cons] at h
        rcases h with h | h
        · exact absurd h.symm c
        · exact h
      obtain ⟨q, u, h1, h2, h3⟩ := posE_key x es (j + 1) hm
      exact ⟨q, u, h1, by omega, by simp only [List.length_cons]; omega⟩
theorem erase_at {K : List Int} {x : Int} {q : Nat} (hn : K.Nodup) (h : K[q]? = some x) : K.eraseIdx q = K.erase x := by
  induction K generalizing q with
  | nil => simp at h
  | cons y K ih =>
    cases q with
    | zero =>
      simp at h
      subst h
      simp
    | succ q =>
      have hq : K[q]? = some x := by simpa using h
      have hn2 := List.nodup_cons.1 hn
      have hne : ¬ y = x := fun e => hn2.1 (e ▸ List.mem_of_getElem? hq)
      rw [List.eraseIdx_cons_succ, ih hn2.2 hq]
      simp [hne]
theorem eraseIdx_mapE {α β : Type} (f : α → β) : ∀ (l : List α) (i : Nat), (l.map f).eraseIdx i = (l.eraseIdx i).map f
  | [], _ => by simp
  | x :: l, 0 => by simp
  | x :: l, i + 1 => by simp [eraseIdx_mapE f l i]
theorem run_del {w : World} {B : Nat} {K : List Int} {ty : TypeId} (h : MapK w B K) {x : Int} (hx : x ∈ K) :
    ∃ w', (Builtin.delete_ #[423, 3] ty #[.map (some B), .int .i64 x]).run Tryz.prog w = .ok (.tuple #[]) w' ∧ MapK w' B (K.erase x) ∧ Fr [B] w w' := by
  obtain ⟨es, c, h1, h2, h3, h4, h5⟩ := h
  obtain ⟨q, u, hq, _, hlt⟩ := posE_key x es 0 (by rw [h2]; exact hx)
  have hf := find_E x es 0 0
  rw [hq] at hf
  obtain ⟨_, b, hb⟩ := posE_at x es 0 q u hq
  rw [Nat.sub_zero] at hb
  have hc : ∀ b, (Instr.checkKey b 10000 3 (.int .i64 x)).run Tryz.prog w = .ok () w := fun b => MapKept.run_checkKey (k := .int .i64 x) Tryz.underlying3 (by simp [MapKept.IsKey]) b 9999
  have e1 : (es.map ent).toArray.eraseIdxIfInBounds q = ((es.eraseIdx q).map ent).toArray := by
    have hl : q < (es.map ent).toArray.size := by simp; omega
    apply Array.ext'
    unfold Array.eraseIdxIfInBounds
    rw [dif_pos hl, Array.toList_eraseIdx]
    exact eraseIdx_mapE ent es q
  refine ⟨{ w with heap := w.heap.setIfInBounds B (.map ((es.map ent).toArray.eraseIdxIfInBounds q) c) }, ?_, ⟨es.eraseIdx q, c, ?_, ?_, ?_, ?_, h5.erase x⟩, frSet _ _ _⟩
  · simp [Builtin.delete_, run_underlying Tryz.underlying423, MapKept.run_getObj_map h1, hc, MapKept.run_findKey Tryz.underlying3 hf, MapKept.run_setObj_map _ h1, Result.andThen]
  · show (w.heap.setIfInBounds B _)[B]? = _
    rw [Array.getElem?_setIfInBounds_self_of_lt h1.lt, e1]
  · rw [← eraseIdx_mapE, h2]
    refine erase_at h5 ?_
    rw [← h2, List.getElem?_map, hb]; rfl
  · exact fun e he => h3 e (List.mem_of_mem_eraseIdx he)
  · rw [← e1]
    exact MapKept.stamped_erase h4 q
theorem wpList_del {ops : Array Oper} {rest : List Oper} {o : Oper} {a : Act} {Q : Exit → Act → World → Prop} (w : World) (hg : o.guard = none) (hd : o.dst = none) (m x : Operand)
    (ho : o.op = .call { callee := .builtin .delete, args := #[m, x], argTypes := #[423, 3] })
    {B : Nat} {K : List Int} {k : Int} (hm : a.eval m = .map (some B)) (hx : a.eval x = .int .i64 k) (h : MapK w B K) (hk : k ∈ K)
    (hK : ∀ w', MapK w' B (K.erase k) → Fr [B] w w' → wpList Tryz.prog ops Q rest a w') : wpList Tryz.prog ops Q (o :: rest) a w := by
  obtain ⟨w', hr, h1, h2⟩ := run_del (ty := o.type) h hk
  refine wpList_plain hg fun K' hK' => ?_
  unfold Oper.wp execOp
  simp only [ho, resolve, invoke, builtin, Sem.run_bind, Sem.run_pure, Result.andThen_ok, List.map_toArray, List.map_cons, List.map_nil, hm, hx, hr]
  refine hK' _ _ ?_
  rw [hd]
  exact hK w' h1 h2
/-- What unfree leaves. -/
def unf : Tr → List Int → List Int
  | .nil, K => K
  | .node _ _ _ l r _ b, K => if K.contains (b : Int) then unf r (unf l (K.erase (b : Int))) else K
def RetUnf (B : Nat) (K : List Int) (w : World) (e : Ending) (w' : World) : Prop := e = .returned (.tuple #[]) ∧ MapK w' B K ∧ Fr [B] w w'
theorem at_ne_map {w : World} {B : Nat} {K : List Int} (hm : MapK w B K) : ∀ {t : Tr}, t.At w → ∀ p ∈ t.addrs, p ∉ [B]
  | .nil, _, p, h => by cases h
  | .node q _ _ l r _ _, ⟨h1, h2, h3⟩, p, h => by
    simp only [Tr.addrs, List.mem_cons, List.mem_append] at h
    rcases h with h | h | h
    · subst h
      obtain ⟨es, c, hm1, _⟩ := hm
      intro hb
      simp only [List.mem_singleton] at hb
      subst hb
      have e1 : w.heap[p]? = _ := h1
      have e2 : w.heap[p]? = _ := hm1
      rw [e1] at e2
      cases e2
    · exact at_ne_map hm h2 p h
    · exact at_ne_map hm h3 p h
set_option maxRecDepth 100000 in
theorem unfree_any (B : Nat) : ∀ (t : Tr) (w : World) (K : List Int), t.At w → MapK w B K → Calls Tryz.prog 422 #[.pointer t.addr, .map (some B)] w (RetUnf B (unf t K) w)
  | .nil, w, K, _, hm => by
    have HM := Lib.hid hm
    simp only [Tr.addr, unf]
    clear hm
    go_enter Tryz.func422, Tryz.ntmps422
    go_wp2
    exact bodyPost_end (v := .tuple #[]) (by simp [results, Tryz.results422, go_sem]) rfl ⟨rfl, HM.out, Fr.refl _ _⟩
  | .node p k v l r h b, w, K, hn, hm => by
    have c5 := Blk.cell hn.1 5
    have hlk := look_K hm (b : Int)
    simp only [Tr.addr, unf]
    cases hK : K.contains (b : Int) with
    | false =>
      rw [hK] at hlk
      have HM := Lib.hid hm
      simp only [Bool.false_eq_true, if_false]
      clear hn hm hK
      go_enter Tryz.func422, Tryz.ntmps422
      go_wp2
      exact bodyPost_end (v := .tuple #[]) (by simp [results, Tryz.results422, go_sem]) rfl ⟨rfl, HM.out, Fr.refl _ _⟩
    | true =>
      rw [hK] at hlk
      simp only [if_true]
      have hx : (b : Int) ∈ K := by simpa using hK
      have HIL := Lib.hid (fun W K' (q : Fr [B] w W) (m : MapK W B K') => unfree_any B l W K' (hn.2.1.fr q (at_ne_map hm hn.2.1)) m)
      have HIR := Lib.hid (fun W K' (q : Fr [B] w W) (m : MapK W B K') => unfree_any B r W K' (hn.2.2.fr q (at_ne_map hm hn.2.2)) m)
      have HNB := Lib.hid (show ∀ W, Fr [B] w W → NodeB W p k v (.pointer l.addr) (.pointer r.addr) h b from fun W q => Blk.fr hn.1 q (at_ne_map hm (t := .node p k v l r h b) hn p (by simp [Tr.addrs])))
      have HM := Lib.hid hm
      obtain ⟨Post, hPost⟩ : ∃ P, RetUnf B (unf r (unf l (K.erase (b : Int)))) w = P := ⟨_, rfl⟩
      have HP := Lib.hid (show ∀ w', MapK w' B (unf r (unf l (K.erase (b : Int)))) → Fr [B] w w' → Post (.returned (.tuple #[])) w' from fun w' q1 q2 => by rw [← hPost]; exact ⟨rfl, q1, q2⟩)
      rw [hPost]
      generalize l.addr = la at *
      generalize r.addr = ra at *
      clear hn hm hK hPost
      go_enter Tryz.func422, Tryz.ntmps422
      go_wp2_with (with_reducible refine wpList_del _ rfl rfl _ _ rfl rfl rfl HM.out hx ?_)
      intro w1 hm1 hf1
      have a2 := Blk.cell (HNB.out w1 hf1) 2
      have cl := HIL.out w1 _ hf1 hm1
      have HF1 := Lib.hid hf1
      clear hm1 hf1 c5 hlk
      go_wp2_with fail
      refine cl.mono ?_
      rintro e w2 ⟨rfl, hm2, hf2⟩
      have HF2 := Lib.hid (HF1.out.trans hf2)
      have cr := HIR.out w2 _ HF2.out hm2
      have a3 := Blk.cell (HNB.out w2 HF2.out) 3
      clear cl hm2 hf2 a2
      go_wp2_with fail
      refine cr.mono ?_
      rintro e w3 ⟨rfl, hm3, hf3⟩
      have HF3 := Lib.hid (HF2.out.trans hf3)
      have HM3 := Lib.hid hm3
      clear cr hm3 hf3 a3
      go_wp2
      exact bodyPost_end (v := .tuple #[]) (by simp [results, Tryz.results422, go_sem]) rfl (HP.out _ HM3.out HF3.out)
end Go.Proofs.YtbkgbkmpalbdpaaGreatDoor

namespace Go.Proofs.YtbkgbkmpalbdpaaGreatDoor
open Go.RowKit Go.Lib

def cellsV : List Ver → List Value
  | [] => []
  | x :: l => .int .i64 (x.1 : Int) :: .pointer x.2.1 :: cellsV l
theorem cellsV_len : ∀ l, (cellsV l).length = l.length * 2
  | [] => rfl
  | x :: l => by simp only [cellsV, List.length_cons, cellsV_len l]; omega
theorem cellsV_app : ∀ (l m : List Ver), cellsV (l ++ m) = cellsV l ++ cellsV m
  | [], _ => rfl
  | x :: l, m => by simp only [List.cons_append, cellsV, cellsV_app l m]
theorem cellsV_one : ∀ (l : List Ver), ∀ u ∈ cellsV l, u.oneCell' = true
  | [], u, h => by cases h
  | x :: l, u, h => by
    simp only [cellsV, List.mem_cons] at h
    rcases h with h | h | h
    · rw [h]; rfl
    · rw [h]; rfl
    · exact cellsV_one l u h
theorem cellsV_get : ∀ (l : List Ver) (j : Nat) (x : Ver), l[j]? = some x → (cellsV l)[j * 2]? = some (.int .i64 (x.1 : Int)) ∧ (cellsV l)[j * 2 + 1]? = some (.pointer x.2.1)
  | [], j, x, h => by simp at h
  | y :: l, 0, x, h => by
    simp at h
    subst h
    exact ⟨rfl, rfl⟩
  | y :: l, j + 1, x, h => by
    have := cellsV_get l j x (by simpa using h)
    rw [show (j + 1) * 2 = j * 2 + 1 + 1 by omega, show j * 2 + 1 + 1 + 1 = (j * 2 + 1) + 1 + 1 by omega]
    simpa [cellsV] using this
theorem info_ver : (Tryz.prog.info? 111).map (fun i => (i.zero, i.size, i.bytes)) = some (some (.agg #[.int .i64 0, .pointer none]), 2, 16) := by kernel_rfl
theorem nextslicecap_small {need cap : Nat} (h : cap < need) (hn : need ≤ 2000) : Builtin.nextslicecap need cap * 16 ≤ 281474976710656 := by
  unfold Builtin.nextslicecap
  by_cases h1 : need > 2 * cap
  · rw [if_pos h1]; omega
  · rw [if_neg h1]
    by_cases h2 : cap < 256
    · rw [if_pos h2]; omega
    · rw [if_neg h2]
      simp only [Builtin.growBy]
      repeat' split
      all_goals omega
/-- append(nil, make([]version, m)...): a fresh row with room for m. -/
theorem run_nil_zerosV (w : World) (ty : TypeId) (m : Nat) (hm : 1 ≤ m ∧ m ≤ 1000) :
    ∃ g cap w', (Builtin.append_ #[112, 3] ty #[.slice none 0 0, .int .i64 m]).run Tryz.prog w = .ok (.slice (some ⟨g, 0, none⟩) m cap) w' ∧ w'.ownsRow w.heap.size 111 2 (.slice (some ⟨g, 0, none⟩) 0 cap) 0 [] ∧ m ≤ cap ∧ w.grownBy w' none := by
  obtain ⟨i0, hi0, hz0, hz1, hz2⟩ := info_parts info_ver
  obtain ⟨hm', hm⟩ := hm
  have h0 : m ≠ 0 := by omega
  have hwr : IntKind.i64.wrap (m : Int) = (m : Int) := by rw [IntKind.wrap_i64]; omega
  have ha : (asIntOf (.int .i64 (m : Int))).run Tryz.prog w = .ok (.i64, (m : Int)) w := rfl
  have hm0 : ¬ ((m : Int) < 0) := by omega
  have hm1 : ¬ (281474976710656 < (m : Int) * 16) := by omega
  have h63 : ¬ (9223372036854775807 < (m : Int)) := by omega
  have hns := nextslicecap_small (show 0 < 0 + m by omega) (by omega)
  rw [Nat.zero_add] at hns
  have hm3 : ¬ (281474976710656 < Builtin.nextslicecap m 0 * 16) := by omega
  have hge := grownCap_ge w m 0 111
  have hcm : grownCap w m 0 111 ≤ maxLen := grownCap_le_maxLen w m 0 111 (by unfold maxLen; omega)
  have hzc : (Value.agg #[.int .i64 0, .pointer none]).cells = #[.int .i64 0, .pointer none] := by kernel_rfl
  refine ⟨w.heap.size, grownCap w m 0 111, w.drew.alloc (.cells (Builtin.zeroCells #[.int .i64 0, .pointer none] m ++ Builtin.zeroCells #[.int .i64 0, .pointer none] (grownCap w m 0 111 - m)) 111), ?_, ?_, hge, ⟨rfl, rfl, rfl, by simp, fun k hk _ => Below.heap_alloc w.drew _ k hk⟩⟩
  · simp [Builtin.append_, run_underlying Tryz.underlying112, run_underlying Tryz.underlying3, sizeOf, typeInfo, zeroValue, hi0, hz0, hz1, hz2, asInt, ha, hwr, hm0, hm1, h0, hzc, hm3, h63, Question.forced, Builtin.firstCells, newRow, grownCap]
    intro h
    omega
  · refine ⟨rfl, .inr ⟨w.heap.size, _, _, rfl, Nat.le_refl _, heap_alloc_new w.drew _, Nat.zero_le _, hcm, ?_, by simp⟩⟩
    simp only [Array.size_append, size_zeroCells]
    show m * 2 + (grownCap w m 0 111 - m) * 2 = _
    omega
theorem wpList_nil_zerosV {ops : Array Oper} {rest : List Oper} {o : Oper} {a : Act} {Q : Exit → Act → World → Prop} (w : World) (hgd : o.guard = none) (s x : Operand)
    (ho : o.op = .call { callee := .builtin .append, args := #[s, x], argTypes := #[112, 3] })
    (m : Nat) (hs : a.eval s = .slice none 0 0) (hx : a.eval x = .int .i64 m) (hm : 1 ≤ m ∧ m ≤ 1000)
    (hK : ∀ g cap w', w'.ownsRow w.heap.size 111 2 (.slice (some ⟨g, 0, none⟩) 0 cap) 0 [] → m ≤ cap → w.grownBy w' none → wpList Tryz.prog ops Q rest (a.put o.dst (.slice (some ⟨g, 0, none⟩) m cap)) w') : wpList Tryz.prog ops Q (o :: rest) a w := by
  refine wpList_plain hgd fun K hK2 => ?_
  obtain ⟨g, cap, w', hr, h2, h3, h4⟩ := run_nil_zerosV w o.type m hm
  unfold Oper.wp execOp
  simp only [ho, resolve, invoke, builtin, Sem.run_bind, Sem.run_pure, Result.andThen_ok, List.map_toArray, List.map_cons, List.map_nil, hs, hx, hr]
  exact hK2 _ _ (hK g cap w' h2 h3 h4)
/-- A row of versions that the call has made. -/
def RetVs (vs : List Ver) (w : World) (e : Ending) (w' : World) : Prop := ∃ g cap, e = .returned (.slice (some ⟨g, 0, none⟩) vs.length cap) ∧ w'.ownsRow w.heap.size 111 2 (.slice (some ⟨g, 0, none⟩) vs.length cap) vs.length (cellsV vs) ∧ Below w.heap.size w w'
set_option maxRecDepth 100000 in
set_option maxHeartbeats 1600000 in
theorem grow_ver (m : Nat) (w : World) (hm : 1 ≤ m ∧ m ≤ 1000) : Calls Tryz.prog 424 #[.slice none 0 0, .int .i64 m] w (RetVs [] w) := by
  have u1 : IntKind.i64.wrap ((m : Int) - 0) = m := by rw [IntKind.wrap_i64]; omega
  have u2 : IntKind.i64.wrap (m : Int) = m := by rw [IntKind.wrap_i64]; omega
  have m0 : ¬ (m : Int) < 0 := by omega
  have i1 : (0 : Int) < (m : Int) := by omega
  have i2 : 0 < m := by omega
  have HM := Lib.hid hm
  clear hm
  go_enter Tryz.func424, Tryz.ntmps424
  go_wp2_with (at_builtin; refine wpList_nil_zerosV _ rfl _ _ rfl m rfl rfl HM.out ?_)
  intro g cap w1 hown hc hgrow
  have hb1 := (Below.refl w.heap.size w).grown hgrow (Nat.le_refl _) (by intro k hk; cases hk)
  clear hgrow
  go_wp2
  go_ret
  exact ⟨_, _, rfl, hown, hb1⟩
def catV (xs ys : List Ver) : Nat → List Ver
  | 0 => []
  | 1 => xs
  | _ => xs ++ ys
/-- append of versions. -/
theorem wpList_vers {ops : Array Oper} {rest : List Oper} {o : Oper} {a : Act} {Q : Exit → Act → World → Prop} (w : World) (hgd : o.guard = none) (s x : Operand)
    (ho : o.op = .call { callee := .builtin .append, args := #[s, x], argTypes := #[112, 112] })
    (base n : Nat) (v : Value) (xs : List Ver) (hs : a.eval s = v) (hown : w.ownsRow base 111 2 v n (cellsV xs))
    (b m c : Nat) (ys : List Ver) (hx : a.eval x = .slice (some ⟨b, 0, none⟩) m c) (hy : LiesV w b 0 (cellsV ys)) (hym : ys.length = m) (hm0 : 0 < m)
    (hn : n + m ≤ 1000) (hbase : base ≤ w.heap.size)
    (h : ∀ g cap w', w'.ownsRow base 111 2 (.slice (some ⟨g, 0, none⟩) (n + m) cap) (n + m) (cellsV (xs ++ ys)) → w.grownBy w' v.ownBlock → wpList Tryz.prog ops Q rest (a.put o.dst (.slice (some ⟨g, 0, none⟩) (n + m) cap)) w') : wpList Tryz.prog ops Q (o :: rest) a w := by
  obtain ⟨i0, hi0, hz0, hz1, hz2⟩ := info_parts info_ver
  refine wpList_append_lies _ hgd s x 112 ho base 111 i0 _ 2 16 Tryz.underlying112 hi0 hz0 hz1 hz2 rfl (by omega) v n (cellsV xs) hs hown ⟨b, 0, none⟩ m c (cellsV ys) hx (by rw [cellsV_len, hym])
    (fun j u hj => by rw [Addr.add_lit]; exact hy.2 j u hj) (cellsV_one _) hm0 (by unfold maxLen; omega) (by omega) hbase _ rfl ?_
  intro g cap w' h1 h2 _ _
  rw [← cellsV_app] at h1
  exact h g cap w' h1 h2
set_option maxRecDepth 100000 in
set_option maxHeartbeats 1600000 in
theorem concat_ver (H b1 b2 n1 c1 n2 c2 : Nat) (xs ys : List Ver) (w : World) (hH : Blk w H #[.slice (some ⟨b1, 0, none⟩) n1 c1, .slice (some ⟨b2, 0, none⟩) n2 c2] 112)
    (hx : LiesV w b1 0 (cellsV xs)) (hy : LiesV w b2 0 (cellsV ys)) (hxl : xs.length = n1) (hyl : ys.length = n2) (h1 : n1 ≤ 40) (h2 : n2 ≤ 40) (h10 : 0 < n1) (h20 : 0 < n2) :
    Calls Tryz.prog 376 #[.slice (some ⟨H, 0, none⟩) 2 2] w (RetVs (xs ++ ys) w) := by
  obtain ⟨Post, hPost⟩ : ∃ P, RetVs (xs ++ ys) w = P := ⟨_, rfl⟩
  have HP := Lib.hid (show ∀ g cap w', w'.ownsRow w.heap.size 111 2 (.slice (some ⟨g, 0, none⟩) (n1 + n2) cap) (n1 + n2) (cellsV (xs ++ ys)) → Below w.heap.size w w' → Post (.returned (.slice (some ⟨g, 0, none⟩) (n1 + n2) cap)) w' from fun g cap w' q1 q2 => by
    rw [← hPost]
    have e : (xs ++ ys).length = n1 + n2 := by rw [List.length_append, hxl, hyl]
    exact ⟨g, cap, by rw [e], by rw [e]; exact q1, q2⟩)
  rw [hPost]
  have HHl := Lib.hid hH.lt
  have u1 : IntKind.i64.wrap (n1 : Int) = n1 := by rw [IntKind.wrap_i64]; omega
  have u2 : IntKind.i64.wrap ((n1 : Int) + n2) = ((n1 + n2 : Nat) : Int) := by rw [IntKind.wrap_i64]; omega
  have i1 : ¬ (n1 : Int) < 0 := by omega
  have i2 : ¬ ((n1 : Int) + n2) < 0 := by omega
  have i3 : (0 : Int) ≤ (n1 : Int) + n2 := by omega
  have k0 := hH.cell 0
  have k1 := hH.cell 1
  have HK0 := Lib.hid k0
  have HK1 := Lib.hid k1
  have cg := grow_ver (n1 + n2) w (by omega)
  have HXL := Lib.hid hxl
  have HYL := Lib.hid hyl
  have HX := Lib.hid hx
  have HY := Lib.hid hy
  have HN := Lib.hid (And.intro h1 (And.intro h2 (And.intro h10 h20)))
  clear hxl hyl hx hy hH hPost h10 h20 h1 h2
  go_enter Tryz.func376, Tryz.ntmps376
  go_wp2
  go_loopw [3, 11] (fun s i wr => ∃ k : Nat, k ≤ 2 ∧ i = .int .i64 k ∧ s = .int .i64 (if k = 0 then 0 else if k = 1 then (n1 : Int) else ((n1 + n2 : Nat) : Int)) ∧ w = wr) (fun _ i _ => 2 - (intOf i).toNat)
  case atStart => exact ⟨0, by omega, rfl, rfl, rfl⟩
  case round =>
    obtain ⟨k, hk, rfl, rfl, rfl⟩ := hrel
    rcases (show k = 0 ∨ k = 1 ∨ k = 2 by omega) with rfl | rfl | rfl
    · go_wp2
      go_roundw
      case rel => exact ⟨1, by omega, by go_num, by simp, by trivial⟩
      case measure => simp [intOf]
    · go_wp2
      go_roundw
      case rel => exact ⟨2, by omega, by go_num, by simp, by trivial⟩
      case measure => simp [intOf]
    · go_wp2_with fail
      refine cg.mono ?_
      rintro e w1 ⟨g, cap, rfl, hown, hb1⟩
      clear cg
      have HO1 := Lib.hid hown
      have HB1 := Lib.hid hb1
      clear hown hb1
      go_wp2
      go_loopw [6, 27] (fun v i wx => ∃ (k : Nat) (g cap : Nat), k ≤ 2 ∧ i = .int .i64 k ∧ v = .slice (some ⟨g, 0, none⟩) (catV xs ys k).length cap ∧ wx.ownsRow w.heap.size 111 2 v (catV xs ys k).length (cellsV (catV xs ys k)) ∧ Below w.heap.size w wx) (fun _ i _ => 2 - (intOf i).toNat)
      case atStart => exact ⟨0, g, cap, by omega, rfl, rfl, HO1.out, HB1.out⟩
      case round =>
        obtain ⟨k, g2, cap2, hk, rfl, rfl, hown, hbl⟩ := hrel
        have hsz := hbl.size
        have k2 := (hbl.cell (p := ⟨H, 0, none⟩) HHl.out).trans HK0.out
        have k3 := (hbl.cell (p := ⟨H, 1, none⟩) HHl.out).trans HK1.out
        have HBL := Lib.hid hbl
        rcases (show k = 0 ∨ k = 1 ∨ k = 2 by omega) with rfl | rfl | rfl
        · have HOW := Lib.hid (show wr.ownsRow w.heap.size 111 2 (.slice (some ⟨g2, 0, none⟩) 0 cap2) 0 (cellsV []) from hown)
          clear hown hbl
          rw [show (catV xs ys 0).length = 0 from rfl]
          go_wp2_with (at_builtin; refine wpList_vers _ rfl _ _ rfl w.heap.size 0 _ [] rfl HOW.out b1 n1 c1 xs rfl (HX.out.below HBL.out) HXL.out HN.out.2.2.1 (by have := HN.out; omega) hsz ?_)
          intro g3 cap3 w2 hown2 hgrow
          have HB2 := Lib.hid (HBL.out.grown hgrow hsz (fun g hg => (World.ownsRow.lt HOW.out g hg).1))
          have HO2 := Lib.hid (show w2.ownsRow w.heap.size 111 2 (.slice (some ⟨g3, 0, none⟩) (catV xs ys 1).length cap3) (catV xs ys 1).length (cellsV (catV xs ys 1)) by
            have e : (catV xs ys 1).length = n1 := HXL.out
            rw [e]
            exact hown2)
          clear hgrow k2 k3 hsz hown2
          go_wp2
          go_roundw
          case rel => exact ⟨1, g3, cap3, by omega, by go_num, by first | (rw [show (catV xs ys 1).length = n1 from HXL.out]; done) | (rw [show (catV xs ys 1).length = n1 from HXL.out]; simp), by simpa [show (catV xs ys 1).length = n1 from HXL.out] using HO2.out, HB2.out⟩
          case measure => simp [intOf]
        · have HOW := Lib.hid (show wr.ownsRow w.heap.size 111 2 (.slice (some ⟨g2, 0, none⟩) n1 cap2) n1 (cellsV xs) by
            have e : (catV xs ys 1).length = n1 := HXL.out
            rw [e] at hown
            exact hown)
          clear hown hbl
          rw [show (catV xs ys 1).length = n1 from HXL.out]
          go_wp2_with (at_builtin; refine wpList_vers _ rfl _ _ rfl w.heap.size n1 _ xs rfl HOW.out b2 n2 c2 ys rfl (HY.out.below HBL.out) HYL.out HN.out.2.2.2 (by have := HN.out; omega) hsz ?_)
          intro g3 cap3 w2 hown2 hgrow
          have HB2 := Lib.hid (HBL.out.grown hgrow hsz (fun g hg => (World.ownsRow.lt HOW.out g hg).1))
          have HEL := Lib.hid (show (catV xs ys 2).length = n1 + n2 by show (xs ++ ys).length = _; rw [List.length_append, HXL.out, HYL.out])
          have HO2 := Lib.hid (show w2.ownsRow w.heap.size 111 2 (.slice (some ⟨g3, 0, none⟩) (n1 + n2) cap3) (n1 + n2) (cellsV (catV xs ys 2)) from hown2)
          clear hgrow k2 k3 hsz hown2
          go_wp2
          go_roundw
          case rel => exact ⟨2, g3, cap3, by omega, by go_num, by rw [HEL.out], by rw [HEL.out]; exact HO2.out, HB2.out⟩
          case measure => simp [intOf]
        · have HEL := Lib.hid (show (catV xs ys 2).length = n1 + n2 by show (xs ++ ys).length = _; rw [List.length_append, HXL.out, HYL.out])
          rw [HEL.out] at hown ⊢
          have HOW := Lib.hid (show wr.ownsRow w.heap.size 111 2 (.slice (some ⟨g2, 0, none⟩) (n1 + n2) cap2) (n1 + n2) (cellsV (xs ++ ys)) from hown)
          clear hown hbl k2 k3 hsz
          go_wp2
          exact HP.out _ _ _ HOW.out HBL.out
end Go.Proofs.YtbkgbkmpalbdpaaGreatDoor

namespace Go.Proofs.YtbkgbkmpalbdpaaGreatDoor
open Go.RowKit Go.Lib

def RetNewDisk (n : Nat) (w : World) (e : Ending) (w' : World) : Prop := ∃ D R M, e = .returned (.tuple #[.pointer (some ⟨D, 0, none⟩), .int .i64 0]) ∧ w.heap.size ≤ D ∧ (∀ X, (∀ x ∈ X, x < w.heap.size) → DiskX X w' D R M n (fun _ => none) [] false 0) ∧ w.heap.size ≤ R ∧ w.heap.size ≤ M ∧ Below w.heap.size w w'
set_option maxRecDepth 100000 in
set_option maxHeartbeats 1600000 in
theorem newdisk_any {w : World} {n : Nat} (h8 : 8 ≤ n) (hm : n ≤ 4096) : Calls Tryz.prog 14 #[.int .i64 (n : Int)] w (RetNewDisk n w) := by
  obtain ⟨Post, hPost⟩ : ∃ P, RetNewDisk n w = P := ⟨_, rfl⟩
  have HP := Lib.hid (show ∀ D R M w', w.heap.size ≤ D → (∀ X, (∀ x ∈ X, x < w.heap.size) → DiskX X w' D R M n (fun _ => none) [] false 0) → w.heap.size ≤ R → w.heap.size ≤ M → Below w.heap.size w w' → Post (.returned (.tuple #[.pointer (some ⟨D, 0, none⟩), .int .i64 0])) w' from fun D R M w' q1 q2 q3 q4 q5 => by rw [← hPost]; exact ⟨D, R, M, rfl, q1, q2, q3, q4, q5⟩)
  rw [hPost]
  clear hPost
  obtain ⟨zs, hzs⟩ : ∃ zs, List.replicate n (Value.slice none 0 0) = zs := ⟨_, rfl⟩
  have h1 : ¬ (n : Int) < 8 := by omega
  have h2 : ¬ (4096 : Int) < (n : Int) := by omega
  have h3 : (8 : Int) ≤ (n : Int) := by omega
  have h4 : (n : Int) ≤ 4096 := by omega
  have hmm := @run_makeMap Tryz.prog
  go_enter Tryz.func14, Tryz.ntmps14
  go_upto_region 3 with fail
  go_wp2_with (with_reducible refine wpList_make1 Tryz.underlying99 info_bys rfl (by omega) _ rfl _ _ rfl w.heap.size _ _ n rfl rfl rfl rfl (by omega) (Nat.le_refl _) zs hzs ?_)
  intro w2 hown hg
  have hb2 : Below w.heap.size w w2 := (Below.refl w.heap.size w).grown hg (Nat.le_refl _) (fun q hq => by cases hq)
  have HB2 := Lib.hid hb2
  have HO2 := Lib.hid hown
  have HZ := Lib.hid hzs
  obtain ⟨W3, hW3⟩ : ∃ W3, W3 = (w2.alloc (.map #[] 0)) := ⟨_, rfl⟩
  obtain ⟨W4, hW4⟩ : ∃ W4, W4 = W3.alloc (.cells #[.slice (some ⟨w.heap.size, 0, none⟩) n n, .map (some w2.heap.size), .bool false, .int .i64 0] 102) := ⟨_, rfl⟩
  have HF := Lib.hid (show w.heap.size < w2.heap.size ∧ Below w.heap.size w W4 ∧ W3.heap.size = w2.heap.size + 1 ∧ (∀ X, (∀ x ∈ X, x < w.heap.size) → DiskX X W4 W3.heap.size w.heap.size w2.heap.size n (fun _ => none) [] false 0) by
    have hlt := World.ownsRow.lt hown w.heap.size rfl
    have s3 : W3.heap.size = w2.heap.size + 1 := by rw [hW3]; simp
    have b3 : Below w2.heap.size w2 W3 := by rw [hW3]; exact (Below.refl _ _).alloc (Nat.le_refl _) _
    have b4 : Below W3.heap.size W3 W4 := by rw [hW4]; exact (Below.refl _ _).alloc (Nat.le_refl _) _
    have m3 : MapI W3 w2.heap.size [] 0 := by rw [hW3]; exact heap_alloc_new w2 _
    refine ⟨hlt.2, hb2.trans ((b3.mono hb2.size).trans (b4.mono (by omega))), s3, fun X hX => ?_⟩
    refine ⟨by rw [hW4]; exact Blk.new _ _ _, ⟨zs, by rw [← hzs, List.length_replicate], ?_, fun i v hv => ?_⟩, ⟨[], 0, m3.below b4, LooseX.nil _ _⟩, by omega, by omega, by omega, ⟨fun q => ?_, fun q => ?_, fun q => ?_⟩, fun k l h => by cases h⟩
    · rcases hown.2 with ⟨q, _⟩ | ⟨g', cap', cur, q, _, q2, _, _, q5, q6⟩
      · cases q
      · injection q with q1 q1' q1''
        injection q1 with q1
        injection q1 with q1
        subst q1 q1''
        have e1 : cur = zs.toArray := by
          have e2 : cur.toList.take (n * 1) = zs := q6
          have e3 : cur.toList.length = n * 1 := by simpa using q5
          rw [← e3, List.take_length] at e2
          rw [← e2]
        rw [e1] at q2
        exact Blk.below (Blk.below q2 b3) b4
    · rw [← hzs] at hv
      have := List.eq_of_mem_replicate (List.mem_of_getElem? hv)
      rw [this]; rfl
    · have := hX _ q; omega
    · have := hX _ q; omega
    · have := hX _ q; omega)
  clear hown hg hb2 hzs
  go_wp2
  rw [← hW3, ← hW4]
  exact HP.out (w2.heap.size + 1) w.heap.size w2.heap.size W4 (by have := HF.out.1; omega) (fun X hX => by rw [← HF.out.2.2.1]; exact HF.out.2.2.2 X hX) (Nat.le_refl _) (Nat.le_of_lt HF.out.1) HF.out.2.1
/-- The store S on its disk; none of its memory is in X. -/
structure StIs (X : List Nat) (w : World) (S D R M n keep K c : Nat) (vs : List Ver) (cur : Nat → Option (List UInt8)) (lo : List (Nat × List (List UInt8))) (bad dn : Bool) (left : Nat) : Prop where
  st : StoreB w S D keep (.slice (some ⟨K, 0, none⟩) vs.length c) bad
  kept : KeptB w K vs
  dk : DiskX (K :: S :: X) w D R M n cur lo dn left
  apart : S ≠ K
  notX : S ∉ X ∧ K ∉ X
def RetOpenNew (X : List Nat) (D R M n keep : Nat) (w : World) (e : Ending) (w' : World) : Prop := ∃ S K M2, e = .returned (.tuple #[.pointer (some ⟨S, 0, none⟩), .int .i64 0]) ∧ w.heap.size ≤ S ∧ w.heap.size ≤ K ∧ (M2 = M ∨ w.heap.size ≤ M2) ∧ StIs X w' S D R M2 n keep K 1 [(0, none, 0)] (updC (fun _ => none) 0 (blockB (headB keep 0 [0]))) [] false false 0 ∧ Fr [D, R, M] w w'
set_option maxRecDepth 100000 in
set_option maxHeartbeats 6400000 in
theorem open_new {X : List Nat} {w : World} {D R M n keep : Nat} (h : DiskX X w D R M n (fun _ => none) [] false 0) (hX : ∀ x ∈ X, x < w.heap.size) (hn : n ≤ 4096) (hn2 : 2 ≤ n) (hk : keep ≤ 8) : Calls Tryz.prog 15 #[.pointer (some ⟨D, 0, none⟩), .int .i64 (keep : Int)] w (RetOpenNew X D R M n keep w) := by
  obtain ⟨Post, hPost⟩ : ∃ P, RetOpenNew X D R M n keep w = P := ⟨_, rfl⟩
  have HP := Lib.hid (show ∀ S K M2 w', w.heap.size ≤ S → w.heap.size ≤ K → (M2 = M ∨ w.heap.size ≤ M2) → StIs X w' S D R M2 n keep K 1 [(0, none, 0)] (updC (fun _ => none) 0 (blockB (headB keep 0 [0]))) [] false false 0 → Fr [D, R, M] w w' → Post (.returned (.tuple #[.pointer (some ⟨S, 0, none⟩), .int .i64 0])) w' from fun S K M2 w' q1 q2 q3 q4 q5 => by rw [← hPost]; exact ⟨S, K, M2, rfl, q1, q2, q3, q4, q5⟩)
  rw [hPost]
  have cc := made_yes h.disk
  have c2 := h.disk.c2
  have HD := Lib.hid h
  have HX := Lib.hid hX
  have HN := Lib.hid (And.intro hn hn2)
  have h1 : ¬ (keep : Int) < 0 := by omega
  have h2 : ¬ (8 : Int) < (keep : Int) := by omega
  have h3 : (keep : Int) ≤ 8 := by omega
  clear h hX hPost hn hn2
  go_enter Tryz.func15, Tryz.ntmps15
  go_wp2_with fail
  refine cc.mono ?_
  rintro e V1 ⟨rfl, rfl⟩
  clear cc
  obtain ⟨W1, hW1⟩ : ∃ W1, W1 = w.alloc (.cells #[.int .i64 0, .int .i64 0, .slice none 0 0] 104) := ⟨_, rfl⟩
  have HB1 := Lib.hid (show Below w.heap.size w W1 by rw [hW1]; exact (Below.refl _ _).alloc (Nat.le_refl _) _)
  go_upto_region 6 with fail
  rw [← hW1]
  clear hW1
  go_wp2
  go_loopw [7, 31] (fun s7 s31 wr => ∃ j : Nat, j ≤ 2 ∧ s7 = .bool false ∧ s31 = .int .i64 (j : Int) ∧ Below w.heap.size w wr) (fun _ s31 _ => 2 - (intOf s31).toNat)
  case atStart => exact ⟨0, Nat.zero_le _, rfl, rfl, HB1.out⟩
  case round =>
    obtain ⟨j, hj, rfl, rfl, hbw⟩ := hrel
    have HBJ := Lib.hid hbw
    by_cases hlt : j < 2
    · have hd := HD.out.below hbw
      have cc := at_any hd.disk hd.row (show j < n by have := HN.out.2; omega) (by intro l hl; cases hl)
      have hjm : (j : Int) < 2 := by omega
      clear hbw hd
      go_wp2_with fail
      refine cc.mono ?_
      rintro e V2 ⟨g, cap, rfl, ho, hb2⟩
      have hc := row_caps ho
      have hl := LiesV.ofRow ho
      have ch := heads_no (c := cap) (hl.2 0 (u8v 0) (by simp [bytesOf, bytV])) hl.1 hc.1 hc.2 (by decide)
      have HB2 := Lib.hid (HBJ.out.trans (hb2.mono HBJ.out.size))
      clear cc ho hb2 hc hl
      go_wp2_with fail
      refine ch.mono ?_
      rintro e V3 ⟨rfl, hb3⟩
      have HB3 := Lib.hid ((HB2.out.trans (hb3.mono HB2.out.size)).alloc (by have := HB2.out.size; have := hb3.size; omega) (.cells #[.int .i64 0, .int .i64 0, .slice none 0 0] 104))
      clear ch hb3
      go_wp2
      go_roundw
      case rel => exact ⟨j + 1, by omega, rfl, by go_num, HB3.out⟩
      case measure => simp [intOf]; omega
    · obtain rfl : j = 2 := by omega
      have hd := HD.out.below hbw
      have cb := blank_any hd.disk hd.ltR (fun k hk => by
        obtain ⟨v, v1, v2⟩ := hd.row.get hk
        rw [v1]
        exact congrArg some v2) (by have := HN.out.1; omega)
      clear hbw hd
      go_wp2_with fail
      refine cb.mono ?_
      rintro e V2 ⟨rfl, hb2⟩
      have HB2 := Lib.hid (HBJ.out.trans (hb2.mono HBJ.out.size))
      clear cb hb2
      obtain ⟨K, hK⟩ : ∃ K, V2.heap.size = K := ⟨_, rfl⟩
      obtain ⟨S, hS⟩ : ∃ S, K + 1 = S := ⟨_, rfl⟩
      obtain ⟨W4, hW4⟩ : ∃ W4, W4 = (V2.alloc (.cells #[.int .i64 0, .pointer none] 111)).alloc (.cells #[.pointer (some ⟨D, 0, none⟩), .int .i64 (keep : Int), .slice (some ⟨K, 0, none⟩) 1 1, .bool false] 114) := ⟨_, rfl⟩
      have hb4 : Below V2.heap.size V2 W4 := by rw [hW4]; exact ((Below.refl _ _).alloc (Nat.le_refl _) _).alloc (by simp) _
      have hst : StoreB W4 S D keep (.slice (some ⟨K, 0, none⟩) 1 1) false := by
        have q := Blk.new (V2.alloc (.cells #[.int .i64 0, .pointer none] 111)) #[.pointer (some ⟨D, 0, none⟩), .int .i64 (keep : Int), .slice (some ⟨K, 0, none⟩) 1 1, .bool false] 114
        rw [← hW4] at q
        have e : (V2.alloc (.cells #[.int .i64 0, .pointer none] 111)).heap.size = S := by simp; omega
        rw [e] at q
        exact q
      have hkb : Blk W4 K #[.int .i64 0, .pointer none] 111 := by
        have q := (Blk.new V2 #[.int .i64 0, .pointer none] 111).below ((Below.refl _ _).alloc (Nat.le_refl _) (.cells #[.pointer (some ⟨D, 0, none⟩), .int .i64 (keep : Int), .slice (some ⟨K, 0, none⟩) 1 1, .bool false] 114))
        rw [← hW4, hK] at q
        exact q
      have hkk : KeptB W4 K [(0, none, 0)] := ⟨hkb.lt, fun j x hx => by
        match j, hx with
        | 0, hx =>
          injection hx with hx
          subst hx
          exact ⟨hkb.cell 0, hkb.cell 1, .inl ⟨rfl, rfl⟩⟩
        | j + 1, hx => simp at hx⟩
      have HB4 := Lib.hid (HB2.out.trans (hb4.mono HB2.out.size))
      have hSK : w.heap.size ≤ K ∧ w.heap.size ≤ S ∧ S < W4.heap.size ∧ K < W4.heap.size := by
        have h1 := HB2.out.size
        have h2 := hst.lt
        have h3 := hkb.lt
        omega
      have hdx : DiskX (K :: S :: X) W4 D R M n (fun _ => none) [] false 0 := HD.out.fr (S := []) (fr_of_below HB4.out []) (by simp) (fun x hx => by
        simp only [List.mem_cons] at hx
        rcases hx with q | q | q
        · exact .inr (by omega)
        · exact .inr (by omega)
        · exact .inl q)
      have hXX : ∀ x ∈ K :: S :: X, x < W4.heap.size := fun x hx => by
        simp only [List.mem_cons] at hx
        rcases hx with q | q | q
        · omega
        · omega
        · have := HX.out x q; have := HB4.out.size; omega
      have ca := anchor_any (c := 1) (num := 0) (m := 1) hst (by simp) hdx (by omega) hXX HN.out.1 HN.out.2 hkk rfl (by omega) (by omega) (by omega) rfl (by omega) (by omega) (by simp) (by simp)
      have HST := Lib.hid hst
      have HKB := Lib.hid hkk
      have HSK := Lib.hid hSK
      have HDX := Lib.hid hdx
      have a2 := Blk.cell hst 2
      have hSne : S ≠ K := by omega
      clear hb4 hst hkb hkk hSK hdx hXX
      go_upto_region 18 with fail
      rw [← hW4]
      clear hW4 hK hS
      go_wp2_with fail
      refine ca.mono ?_
      rintro e V5 ⟨hf, ho⟩
      rcases ho with ⟨q, _⟩ | ⟨-, rfl, M2, hm, hdx⟩
      · exact absurd q (by decide)
      have HSI := Lib.hid (show StIs X V5 S D R M2 n keep K 1 [(0, none, 0)] (updC (fun _ => none) 0 (blockB (headB keep 0 [0]))) [] false false 0 by
        have hq := HDX.out.notX
        have nS : S ∉ [D, R, M] := by
          simp only [List.mem_cons, not_or] at hq ⊢
          exact ⟨fun e => hq.1.2.1 e.symm, fun e => hq.2.1.2.1 e.symm, fun e => hq.2.2.2.1 e.symm, by simp⟩
        have nK : K ∉ [D, R, M] := by
          simp only [List.mem_cons, not_or] at hq ⊢
          exact ⟨fun e => hq.1.1 e.symm, fun e => hq.2.1.1 e.symm, fun e => hq.2.2.1 e.symm, by simp⟩
        refine ⟨Blk.fr HST.out hf nS, ?_, hdx, hSne, fun q => ?_, fun q => ?_⟩
        · refine ⟨Nat.lt_of_lt_of_le HKB.out.1 hf.size, fun j x hx => ?_⟩
          match j, hx with
          | 0, hx =>
            injection hx with hx
            subst hx
            have h0 := HKB.out.2 0 _ rfl
            exact ⟨(World.cell?_of_block (hf.block K HKB.out.1 nK)).trans h0.1, (World.cell?_of_block (hf.block K HKB.out.1 nK)).trans h0.2.1, .inl ⟨rfl, rfl⟩⟩
          | j + 1, hx => simp at hx
        · have := HX.out S q; have := HSK.out.2.1; omega
        · have := HX.out K q; have := HSK.out.1; omega)
      have HFR := Lib.hid ((fr_of_below HB4.out [D, R, M]).next hf (fun x hx => .inl hx))
      have HM2 := Lib.hid (show w.heap.size ≤ M2 from Nat.le_trans HB4.out.size hm)
      clear ca hf hm hdx
      go_wp2
      exact HP.out S K M2 V5 HSK.out.2.1 HSK.out.1 (.inr HM2.out) HSI.out HFR.out
end Go.Proofs.YtbkgbkmpalbdpaaGreatDoor

namespace Go.Proofs.YtbkgbkmpalbdpaaGreatDoor
open Go.RowKit Go.Lib

/-- Block H is a house in which nothing but the store was used. -/
def HouseB (w : World) (H D S : Nat) : Prop := Blk w H #[.bool true, .slice none 0 0, .pointer none, .slice none 0 0, .slice none 0 0, .slice none 0 0, .pointer none, .slice none 0 0, .slice none 0 0, .slice none 0 0, .pointer (some ⟨D, 0, none⟩), .pointer (some ⟨S, 0, none⟩)] 51
theorem StIs.fr {X Y T : List Nat} {w w' : World} {S D R M n keep K c : Nat} {vs : List Ver} {cur : Nat → Option (List UInt8)} {lo : List (Nat × List (List UInt8))} {bad dn : Bool} {left : Nat} (h : StIs X w S D R M n keep K c vs cur lo bad dn left) (hk : KeptB w' K vs) (hf : Fr T w w') (hT : ∀ x ∈ T, x ∈ X ∨ w.heap.size ≤ x) (hY : ∀ x ∈ Y, x ∈ X ∨ w.heap.size ≤ x) : StIs Y w' S D R M n keep K c vs cur lo bad dn left := by
  have nS := Blk.lt h.st
  have nK := h.kept.1
  refine ⟨Blk.fr h.st hf (away h.notX.1 nS hT), hk, h.dk.fr hf (fun x hx => (hT x hx).imp (fun q => by simp [q]) id) (fun x hx => ?_), h.apart, away h.notX.1 nS hY, away h.notX.2 nK hY⟩
  simp only [List.mem_cons] at hx
  rcases hx with q | q | q
  · exact .inl (by simp [q])
  · exact .inl (by simp [q])
  · exact (hY x q).imp (fun q => by simp [q]) id
theorem StIs.below {X Y : List Nat} {w w' : World} {S D R M n keep K c : Nat} {vs : List Ver} {cur : Nat → Option (List UInt8)} {lo : List (Nat × List (List UInt8))} {bad dn : Bool} {left : Nat} (h : StIs X w S D R M n keep K c vs cur lo bad dn left) (hb : Below w.heap.size w w') (hY : ∀ x ∈ Y, x ∈ X ∨ w.heap.size ≤ x) : StIs Y w' S D R M n keep K c vs cur lo bad dn left :=
  h.fr (T := []) (h.kept.below hb) (fr_of_below hb []) (by simp) hY
def RetNew (X : List Nat) (w : World) (e : Ending) (w' : World) : Prop := ∃ H S D R M K, e = .returned (.pointer (some ⟨H, 0, none⟩)) ∧ w.heap.size ≤ H ∧ HouseB w' H D S ∧ StIs (H :: X) w' S D R M 4096 2 K 1 [(0, none, 0)] (updC (fun _ => none) 0 (blockB (headB 2 0 [0]))) [] false false 0 ∧ Below w.heap.size w w'
set_option maxRecDepth 100000 in
set_option maxHeartbeats 3200000 in
theorem new_any {X : List Nat} {w : World} (hX : ∀ x ∈ X, x < w.heap.size) : Calls Tryz.prog 5 #[] w (RetNew X w) := by
  obtain ⟨Post, hPost⟩ : ∃ P, RetNew X w = P := ⟨_, rfl⟩
  have HP := Lib.hid (show ∀ H S D R M K w', w.heap.size ≤ H → HouseB w' H D S → StIs (H :: X) w' S D R M 4096 2 K 1 [(0, none, 0)] (updC (fun _ => none) 0 (blockB (headB 2 0 [0]))) [] false false 0 → Below w.heap.size w w' → Post (.returned (.pointer (some ⟨H, 0, none⟩))) w' from fun H S D R M K w' q1 q2 q3 q4 => by rw [← hPost]; exact ⟨H, S, D, R, M, K, rfl, q1, q2, q3, q4⟩)
  rw [hPost]
  have HX := Lib.hid hX
  have cc := newdisk_any (w := w) (n := 4096) (by omega) (by omega)
  clear hPost hX
  go_enter Tryz.func5, Tryz.ntmps5
  go_wp2_with fail
  refine cc.mono ?_
  rintro e V1 ⟨D, R, M, rfl, hD, hdx, hR, hM, hb1⟩
  have co := open_new (keep := 2) (hdx X HX.out) (fun x hx => Nat.lt_of_lt_of_le (HX.out x hx) hb1.size) (by omega) (by omega) (by omega)
  have HB1 := Lib.hid hb1
  have HGE := Lib.hid (show w.heap.size ≤ D ∧ w.heap.size ≤ R ∧ w.heap.size ≤ M from ⟨hD, hR, hM⟩)
  clear cc hdx hb1 hD hR hM
  go_wp2_with fail
  refine co.mono ?_
  rintro e V2 ⟨S, K, M2, rfl, h1, h2, h3, h4, h5⟩
  obtain ⟨H, hH⟩ : ∃ H, V2.heap.size = H := ⟨_, rfl⟩
  obtain ⟨W3, hW3⟩ : ∃ W3, W3 = V2.alloc (.cells #[.bool true, .slice none 0 0, .pointer none, .slice none 0 0, .slice none 0 0, .slice none 0 0, .pointer none, .slice none 0 0, .slice none 0 0, .slice none 0 0, .pointer (some ⟨D, 0, none⟩), .pointer (some ⟨S, 0, none⟩)] 51) := ⟨_, rfl⟩
  have b3 : Below V2.heap.size V2 W3 := by rw [hW3]; exact (Below.refl _ _).alloc (Nat.le_refl _) _
  have hhb : HouseB W3 H D S := by rw [hW3, ← hH]; exact Blk.new _ _ _
  have HB2 := Lib.hid (show Below w.heap.size w V2 from HB1.out.trans (h5.belowOf HB1.out.size (fun x hx => by
    have := HGE.out
    simp only [List.mem_cons, List.not_mem_nil, or_false] at hx
    omega)))
  have HF := Lib.hid (show HouseB W3 H D S ∧ w.heap.size ≤ H ∧ Below w.heap.size w W3 ∧ StIs (H :: X) W3 S D R M2 4096 2 K 1 [(0, none, 0)] (updC (fun _ => none) 0 (blockB (headB 2 0 [0]))) [] false false 0 from ⟨hhb, by rw [← hH]; exact HB2.out.size, HB2.out.trans (b3.mono HB2.out.size), h4.below b3 (fun x hx => by
    rcases List.mem_cons.1 hx with q | q
    · exact .inr (by omega)
    · exact .inl q)⟩)
  clear co h1 h2 h3 h4 h5 b3 hhb
  go_wp2
  rw [← hW3]
  exact HP.out H S D R M2 K W3 HF.out.2.1 HF.out.1 HF.out.2.2.2 HF.out.2.2.1
end Go.Proofs.YtbkgbkmpalbdpaaGreatDoor
