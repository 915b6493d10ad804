/- Texts Ha Hb in one. -/
import Derived.Test.YtobpacebpiabcaaGreatDoorPkAd
namespace Go.Proofs.YtobpacebpiabcaaGreatDoor

def innP (δ : Dl) (s : List Bool) (p : List Nat) : List Nat → List Pt → List (List Bool) → Option (List Nat) × List Pt × List (List Bool)
  | [], Q, S => (none, Q, S)
  | c :: cs, Q, S =>
    if δ.diff s c then (some (p ++ [c]), Q, S)
    else if S.contains (δ.next s c) = true then innP δ s p cs Q S
    else innP δ s p cs (Q ++ [(δ.next s c, p ++ [c])]) (S ++ [δ.next s c])
def outP (δ : Dl) (m : Nat) : Nat → Nat → List Pt → List (List Bool) → Option (List Nat)
  | 0, _, _, _ => none
  | fuel + 1, i, Q, S =>
    match Q[i]? with
    | none => none
    | some x =>
      match innP δ x.1 x.2 (List.range m) Q S with
      | (some r, _, _) => some r
      | (none, Q', S') => outP δ m fuel (i + 1) Q' S'
/-- The first state has not been met again. -/
def LkA (beg : List Bool) (Q P : List Pt) (S : List (List Bool)) : Prop := P = Q ∧ ∀ s, s ∈ S ↔ s ∈ Q.map (·.1) ∧ s ≠ beg
/-- It has been met again, and stands at k. -/
def LkB (beg : List Bool) (k : Nat) (Q P : List Pt) (S : List (List Bool)) : Prop := k ≤ Q.length ∧ (∃ d, P = Q.take k ++ (beg, d) :: Q.drop k) ∧ ∀ s, s ∈ S ↔ s ∈ Q.map (·.1)
section
variable {δ : Dl} {m n : Nat} {beg : List Bool}
theorem lock_b {k : Nat} {s : List Bool} {p : List Nat} : ∀ (cs : List Nat) (Q P : List Pt) (S : List (List Bool)), LkB beg k Q P S →
    (∀ r Q', inn δ s p cs Q = (some r, Q') → ∃ P' S', innP δ s p cs P S = (some r, P', S')) ∧
    (∀ Q', inn δ s p cs Q = (none, Q') → ∃ P' S', innP δ s p cs P S = (none, P', S') ∧ LkB beg k Q' P' S')
  | [], Q, P, S, h => ⟨fun r Q' e => by simp [inn] at e, fun Q' e => by
    have : Q = Q' := by simpa [inn] using e
    subst this
    exact ⟨P, S, rfl, h⟩⟩
  | c :: cs, Q, P, S, h => by
    by_cases hd : δ.diff s c
    · refine ⟨fun r Q' e => ?_, fun Q' e => by simp [inn, hd] at e⟩
      have : p ++ [c] = r ∧ Q = Q' := by simpa [inn, hd] using e
      rw [← this.1]
      exact ⟨P, S, by rw [innP, if_pos hd]⟩
    obtain ⟨h1, ⟨d, h2⟩, h3⟩ := h
    by_cases hm : (Q.map (·.1)).contains (δ.next s c) = true
    · have hs : S.contains (δ.next s c) = true := by
        rw [List.contains_iff_mem] at hm ⊢
        exact (h3 _).2 hm
      have e0 : inn δ s p (c :: cs) Q = inn δ s p cs Q := by rw [inn, if_neg hd, if_pos hm]
      have e1 : innP δ s p (c :: cs) P S = innP δ s p cs P S := by rw [innP, if_neg hd, if_pos hs]
      rw [e0, e1]
      exact lock_b cs Q P S ⟨h1, ⟨d, h2⟩, h3⟩
    · have hs : ¬ S.contains (δ.next s c) = true := by
        rw [List.contains_iff_mem] at hm ⊢
        exact fun q => hm ((h3 _).1 q)
      have e0 : inn δ s p (c :: cs) Q = inn δ s p cs (Q ++ [(δ.next s c, p ++ [c])]) := by rw [inn, if_neg hd, if_neg hm]
      have e1 : innP δ s p (c :: cs) P S = innP δ s p cs (P ++ [(δ.next s c, p ++ [c])]) (S ++ [δ.next s c]) := by rw [innP, if_neg hd, if_neg hs]
      rw [e0, e1]
      refine lock_b cs _ _ _ ⟨by simp; omega, ⟨d, ?_⟩, fun t => ?_⟩
      · rw [h2, List.take_append_of_le_length h1, List.drop_append_of_le_length h1]; simp
      · rw [List.mem_append, h3, List.map_append, List.mem_append]; simp
theorem lock_a {i : Nat} {s : List Bool} {p : List Nat} : ∀ (cs : List Nat) (Q P : List Pt) (S : List (List Bool)), beg ∈ Q.map (·.1) → i < Q.length → LkA beg Q P S →
    (∀ r Q', inn δ s p cs Q = (some r, Q') → ∃ P' S', innP δ s p cs P S = (some r, P', S')) ∧
    (∀ Q', inn δ s p cs Q = (none, Q') → ∃ P' S', innP δ s p cs P S = (none, P', S') ∧ (LkA beg Q' P' S' ∨ ∃ k, i < k ∧ LkB beg k Q' P' S'))
  | [], Q, P, S, _, _, h => ⟨fun r Q' e => by simp [inn] at e, fun Q' e => by
    have : Q = Q' := by simpa [inn] using e
    subst this
    exact ⟨P, S, rfl, .inl h⟩⟩
  | c :: cs, Q, P, S, hb, hi, h => by
    by_cases hd : δ.diff s c
    · refine ⟨fun r Q' e => ?_, fun Q' e => by simp [inn, hd] at e⟩
      have : p ++ [c] = r ∧ Q = Q' := by simpa [inn, hd] using e
      rw [← this.1]
      exact ⟨P, S, by rw [innP, if_pos hd]⟩
    obtain ⟨h2, h3⟩ := h
    subst h2
    by_cases hm : (P.map (·.1)).contains (δ.next s c) = true
    · have e0 : inn δ s p (c :: cs) P = inn δ s p cs P := by rw [inn, if_neg hd, if_pos hm]
      rw [e0]
      rw [List.contains_iff_mem] at hm
      by_cases hn : δ.next s c = beg
      · have hs : ¬ S.contains (δ.next s c) = true := by
          rw [List.contains_iff_mem]
          exact fun q => ((h3 _).1 q).2 hn
        have e1 : innP δ s p (c :: cs) P S = innP δ s p cs (P ++ [(beg, p ++ [c])]) (S ++ [beg]) := by rw [innP, if_neg hd, if_neg hs, hn]
        rw [e1]
        obtain ⟨a1, a2⟩ := lock_b (δ := δ) (beg := beg) (k := P.length) (s := s) (p := p) cs P (P ++ [(beg, p ++ [c])]) (S ++ [beg]) ⟨Nat.le_refl _, ⟨p ++ [c], by simp⟩, fun t => by
          rw [List.mem_append, h3]
          constructor
          · rintro (q | q)
            · exact q.1
            · have : t = beg := by simpa using q
              rw [this]; exact hb
          · intro q
            by_cases ht : t = beg
            · exact .inr (by simp [ht])
            · exact .inl ⟨q, ht⟩⟩
        refine ⟨a1, fun Q' e => ?_⟩
        obtain ⟨P', S', b1, b2⟩ := a2 Q' e
        exact ⟨P', S', b1, .inr ⟨_, hi, b2⟩⟩
      · have hs : S.contains (δ.next s c) = true := by
          rw [List.contains_iff_mem]
          exact (h3 _).2 ⟨hm, hn⟩
        have e1 : innP δ s p (c :: cs) P S = innP δ s p cs P S := by rw [innP, if_neg hd, if_pos hs]
        rw [e1]
        exact lock_a cs P P S hb hi ⟨rfl, h3⟩
    · have hm' := hm
      rw [List.contains_iff_mem] at hm'
      have hn : δ.next s c ≠ beg := fun q => hm' (q ▸ hb)
      have hs : ¬ S.contains (δ.next s c) = true := by
        rw [List.contains_iff_mem]
        exact fun q => hm' ((h3 _).1 q).1
      have e0 : inn δ s p (c :: cs) P = inn δ s p cs (P ++ [(δ.next s c, p ++ [c])]) := by rw [inn, if_neg hd, if_neg hm]
      have e1 : innP δ s p (c :: cs) P S = innP δ s p cs (P ++ [(δ.next s c, p ++ [c])]) (S ++ [δ.next s c]) := by rw [innP, if_neg hd, if_neg hs]
      rw [e0, e1]
      refine lock_a cs _ _ _ (by rw [List.map_append]; exact List.mem_append_left _ hb) (by simp; omega) ⟨rfl, fun t => ?_⟩
      rw [List.mem_append, h3, List.map_append, List.mem_append]
      constructor
      · rintro (q | q)
        · exact ⟨.inl q.1, q.2⟩
        · have : t = δ.next s c := by simpa using q
          exact ⟨.inr (by simpa using this), this ▸ hn⟩
      · rintro ⟨q | q, r⟩
        · exact .inl ⟨q, r⟩
        · exact .inr (by simpa using q)
/-- At a state all whose sets have been looked at nothing is added. -/
theorem innP_skip {s : List Bool} {p : List Nat} {P : List Pt} {S : List (List Bool)} : ∀ (cs : List Nat), (∀ c ∈ cs, ¬ δ.diff s c ∧ δ.next s c ∈ S) → innP δ s p cs P S = (none, P, S)
  | [], _ => rfl
  | c :: cs, h => by
    have h1 := h c (by simp)
    rw [innP, if_neg h1.1, if_pos (by rw [List.contains_iff_mem]; exact h1.2)]
    exact innP_skip cs fun d hd => h d (by simp [hd])
theorem outP_end {fuel i : Nat} {P : List Pt} {S : List (List Bool)} (h : P.length ≤ i) : outP δ m fuel i P S = none := by
  cases fuel with
  | zero => rfl
  | succ fuel => rw [outP, List.getElem?_eq_none h]
theorem outr_end {fuel i : Nat} {Q : List Pt} (h : Q.length ≤ i) : outr δ m fuel i Q = none := by
  cases fuel with
  | zero => rfl
  | succ fuel => rw [outr, List.getElem?_eq_none h]
theorem LkB.len {k : Nat} {Q P : List Pt} {S : List (List Bool)} (h : LkB beg k Q P S) : P.length = Q.length + 1 := by
  obtain ⟨h1, ⟨d, h2⟩, _⟩ := h
  rw [h2]; simp; omega
theorem LkB.lo {k i : Nat} {Q P : List Pt} {S : List (List Bool)} (h : LkB beg k Q P S) (hi : i < k) : P[i]? = Q[i]? := by
  obtain ⟨h1, ⟨d, h2⟩, _⟩ := h
  rw [h2, List.getElem?_append_left (by simp; omega), List.getElem?_take, if_pos hi]
theorem LkB.hi {k i : Nat} {Q P : List Pt} {S : List (List Bool)} (h : LkB beg k Q P S) (hi : k ≤ i) : P[i + 1]? = Q[i]? := by
  obtain ⟨h1, ⟨d, h2⟩, _⟩ := h
  rw [h2, List.getElem?_append_right (by simp; omega), List.length_take, Nat.min_eq_left h1, show i + 1 - k = (i - k) + 1 by omega, List.getElem?_cons_succ, List.getElem?_drop, show k + (i - k) = i by omega]
theorem LkB.at {k : Nat} {Q P : List Pt} {S : List (List Bool)} (h : LkB beg k Q P S) : ∃ d, P[k]? = some (beg, d) := by
  obtain ⟨h1, ⟨d, h2⟩, _⟩ := h
  exact ⟨d, by rw [h2, List.getElem?_append_right (by simp; omega), List.length_take, Nat.min_eq_left h1, Nat.sub_self, List.getElem?_cons_zero]⟩
theorem lock_c (hlen : ∀ s c, s.length = n → c < m → (δ.next s c).length = n) {k : Nat} : ∀ (fr fp i : Nat) (Q P : List Pt) (S : List (List Bool)), Inv δ m n beg i Q → LkB beg k Q P S → k ≤ i → 2 ^ n < fr + i → 2 ^ n < fp + i → outP δ m fp (i + 1) P S = outr δ m fr i Q
  | 0, fp, i, Q, P, S, h, hl, _, hr, _ => by
    have h1 := h.len
    have h2 := hl.len
    rw [outr_end (by omega), outP_end (by omega)]
  | fr + 1, 0, i, Q, P, S, h, hl, _, _, hp => by
    have h1 := h.len
    have h2 := hl.len
    rw [outr_end (by omega), outP_end (by omega)]
  | fr + 1, fp + 1, i, Q, P, S, h, hl, hk, hr, hp => by
    cases hx : Q[i]? with
    | none =>
      have h1 := List.getElem?_eq_none_iff.1 hx
      have h2 := hl.len
      rw [outr_end h1, outP_end (by omega)]
    | some x =>
      have hy := (hl.hi hk).trans hx
      rw [outr, outP, hx, hy]
      dsimp only
      obtain ⟨a1, a2⟩ := lock_b (δ := δ) (s := x.1) (p := x.2) (List.range m) Q P S hl
      obtain ⟨_, c2⟩ := inn_ok hlen (List.range m) Q h hx (fun c hc => List.mem_range.1 hc)
      cases hr : inn δ x.1 x.2 (List.range m) Q with
      | mk o Q' =>
        cases o with
        | some r =>
          obtain ⟨P', S', b⟩ := a1 r Q' hr
          rw [b]
        | none =>
          obtain ⟨P', S', b1, b2⟩ := a2 Q' hr
          obtain ⟨d1, d2, _, d4⟩ := c2 Q' hr
          rw [b1]
          exact lock_c hlen fr fp (i + 1) Q' P' S' (d1.succ d2 (fun c hc => d4 c (List.mem_range.2 hc))) b2 (by omega) (by omega) (by omega)
theorem lock_k (hlen : ∀ s c, s.length = n → c < m → (δ.next s c).length = n) {k : Nat} : ∀ (fr fp i : Nat) (Q P : List Pt) (S : List (List Bool)), Inv δ m n beg i Q → LkB beg k Q P S → 1 ≤ i → i ≤ k → 2 ^ n < fr + i → 2 ^ n + 1 < fp + i → outP δ m fp i P S = outr δ m fr i Q := by
  intro fr
  induction fr with
  | zero =>
    intro fp i Q P S h hl _ hik hr hp
    have h1 := h.len
    have h2 := hl.1
    omega
  | succ fr ih =>
    intro fp i Q P S h hl hi1 hik hr hp
    have h1 := h.len
    have h2 := hl.1
    cases fp with
    | zero => omega
    | succ fp =>
      by_cases e : i = k
      · subst e
        obtain ⟨d, hd⟩ := hl.at
        rw [outP, hd]
        dsimp only
        have hf := h.done 0 (beg, []) (by omega) h.first
        rw [innP_skip (List.range m) fun c hc => ⟨(hf c (List.mem_range.1 hc)).1, by
          obtain ⟨y, hy, ey, _⟩ := (hf c (List.mem_range.1 hc)).2
          exact (hl.2.2 _).2 (List.mem_map.2 ⟨y, hy, ey⟩)⟩]
        exact lock_c hlen (fr + 1) fp i Q P S h hl (Nat.le_refl _) hr (by omega)
      · cases hx : Q[i]? with
        | none =>
          have := List.getElem?_eq_none_iff.1 hx
          omega
        | some x =>
          have hy := (hl.lo (by omega : i < k)).trans hx
          rw [outr, outP, hx, hy]
          dsimp only
          obtain ⟨a1, a2⟩ := lock_b (δ := δ) (s := x.1) (p := x.2) (List.range m) Q P S hl
          obtain ⟨_, c2⟩ := inn_ok hlen (List.range m) Q h hx (fun c hc => List.mem_range.1 hc)
          cases hr : inn δ x.1 x.2 (List.range m) Q with
          | mk o Q' =>
            cases o with
            | some r =>
              obtain ⟨P', S', b⟩ := a1 r Q' hr
              rw [b]
            | none =>
              obtain ⟨P', S', b1, b2⟩ := a2 Q' hr
              obtain ⟨d1, d2, _, d4⟩ := c2 Q' hr
              rw [b1]
              exact ih fp (i + 1) Q' P' S' (d1.succ d2 (fun c hc => d4 c (List.mem_range.2 hc))) b2 (by omega) (by omega) (by omega) (by omega)
theorem lock_o (hlen : ∀ s c, s.length = n → c < m → (δ.next s c).length = n) : ∀ (fr fp i : Nat) (Q P : List Pt) (S : List (List Bool)), Inv δ m n beg i Q → LkA beg Q P S → 2 ^ n < fr + i → 2 ^ n + 1 < fp + i → outP δ m fp i P S = outr δ m fr i Q := by
  intro fr
  induction fr with
  | zero =>
    intro fp i Q P S h hl hr hp
    have h1 := h.len
    rw [outr_end (by omega), outP_end (by rw [hl.1]; omega)]
  | succ fr ih =>
    intro fp i Q P S h hl hr hp
    have h1 := h.len
    cases hx : Q[i]? with
    | none =>
      have := List.getElem?_eq_none_iff.1 hx
      rw [outr_end this, outP_end (by rw [hl.1]; exact this)]
    | some x =>
      have hlt := (List.getElem?_eq_some_iff.1 hx).1
      cases fp with
      | zero => omega
      | succ fp =>
        have hy : P[i]? = some x := by rw [hl.1]; exact hx
        rw [outr, outP, hx, hy]
        dsimp only
        obtain ⟨a1, a2⟩ := lock_a (δ := δ) (i := i) (s := x.1) (p := x.2) (List.range m) Q P S (List.mem_map.2 ⟨_, List.mem_of_getElem? h.first, rfl⟩) hlt hl
        obtain ⟨_, c2⟩ := inn_ok hlen (List.range m) Q h hx (fun c hc => List.mem_range.1 hc)
        cases hr : inn δ x.1 x.2 (List.range m) Q with
        | mk o Q' =>
          cases o with
          | some r =>
            obtain ⟨P', S', b⟩ := a1 r Q' hr
            rw [b]
          | none =>
            obtain ⟨P', S', b1, b2⟩ := a2 Q' hr
            obtain ⟨d1, d2, _, d4⟩ := c2 Q' hr
            have hs := d1.succ d2 (fun c hc => d4 c (List.mem_range.2 hc))
            rw [b1]
            rcases b2 with b2 | ⟨k, hk, b2⟩
            · exact ih fp (i + 1) Q' P' S' hs b2 (by omega) (by omega)
            · exact lock_k hlen fr fp (i + 1) Q' P' S' hs b2 (by omega) (by omega) (by omega) (by omega)
/-- Both searches find the same. -/
theorem searchP_eq (hlen : ∀ s c, s.length = n → c < m → (δ.next s c).length = n) (hb : beg.length = n) : outP δ m (2 ^ n + 2) 0 [(beg, [])] [] = outr δ m (2 ^ n + 1) 0 [(beg, [])] :=
  lock_o hlen _ _ _ _ _ _ (inv_start hb) ⟨rfl, fun s => by simp⟩ (by omega) (by omega)
end
end Go.Proofs.YtobpacebpiabcaaGreatDoor

namespace Go.Proofs.YtobpacebpiabcaaGreatDoor
open Go.Lib

/-- The log of a path: all on day 0, with the marks of its sets. -/
def evL (M : Nat → List (List UInt8)) (p : List Nat) : List Ev := p.map fun c => (0, M c)
theorem evL_len (M : Nat → List (List UInt8)) (p : List Nat) : (evL M p).length = p.length := by simp [evL]
theorem evL_snoc (M : Nat → List (List UInt8)) (p : List Nat) (c : Nat) : evL M (p ++ [c]) = evL M p ++ [(0, M c)] := by simp [evL]
theorem evL_day (M : Nat → List (List UInt8)) (p : List Nat) (i : Nat) : dayAt (evL M p) i = 0 := by
  unfold dayAt evL
  by_cases h : i < p.length
  · simp [List.getD_eq_getElem?_getD, h]
  · rw [List.getD_eq_getElem?_getD, List.getElem?_eq_none (by simpa using h)]; rfl
theorem evL_marks {M : Nat → List (List UInt8)} {p : List Nat} {i : Nat} (h : i < p.length) : marksAt (evL M p) i = M p[i] := by
  unfold marksAt evL
  simp [List.getD_eq_getElem?_getD, h]
theorem evL_last (M : Nat → List (List UInt8)) (p : List Nat) (c : Nat) : marksAt (evL M (p ++ [c])) p.length = M c := by
  rw [evL_marks (by simp)]; simp
theorem evL_agr {M : Nat → List (List UInt8)} {p q : List Nat} {j : Nat} (h : p[j]? = q[j]?) : marksAt (evL M p) j = marksAt (evL M q) j := by
  unfold marksAt evL
  rw [List.getD_eq_getElem?_getD, List.getD_eq_getElem?_getD, List.getElem?_map, List.getElem?_map, h]
theorem path_pre {M : Nat → List (List UInt8)} {p q : List Nat} {i : Nat} (t : Tm) (h : ∀ j ≤ i, p[j]? = q[j]?) : t.says (evL M p) i = t.says (evL M q) i :=
  tm_agr t (fun j _ => by rw [evL_day, evL_day]) (fun nm _ j hj => by rw [evL_agr (h j hj)])
theorem kept_agr {l m : List Ev} {i : Nat} (hd : ∀ j, dayAt l j = dayAt m j) (hm : ∀ j < i, marksAt l j = marksAt m j) : ∀ (f : Fo), f.kept l i = f.kept m i
  | .nil => rfl
  | .cons k nm n ks r => by
    rw [Fo.kept, Fo.kept, kept_agr hd hm ks, kept_agr hd hm r, memN_congr (m := saysF m ks) fun q j hj => (says_agr (fun x _ => hd x) ks (fun nm _ x hx => by rw [hm x (by omega)])).2 q j (Nat.le_refl _)]
theorem kept_snoc (M : Nat → List (List UInt8)) (p : List Nat) (c : Nat) (f : Fo) : f.kept (evL M (p ++ [c])) p.length = f.kept (evL M p) p.length :=
  kept_agr (fun j => by rw [evL_day, evL_day]) (fun j hj => evL_agr (by rw [List.getElem?_append_left hj])) f
theorem stp_len (ms : List (List UInt8)) : ∀ (f : Fo) (old : List Bool), (Fo.stp ms f old).2.length = f.past
  | .nil, _ => rfl
  | .cons k nm n ks r, old => by
    rw [Fo.stp]
    simp only [List.length_append, stp_len ms ks, stp_len ms r, Fo.past]
    split <;> rfl
/-- What two terms say at a set of marks, and what they keep then. -/
def dlT (M : Nat → List (List UInt8)) (a b : Tm) : Dl := fun s c =>
  ((Fo.stp (M c) a.fo (s.take a.fo.past)).1.headD false, (Fo.stp (M c) b.fo (s.drop a.fo.past)).1.headD false, (Fo.stp (M c) a.fo (s.take a.fo.past)).2 ++ (Fo.stp (M c) b.fo (s.drop a.fo.past)).2)
theorem dl_len (M : Nat → List (List UInt8)) (a b : Tm) (s : List Bool) (c : Nat) : ((dlT M a b).next s c).length = a.fo.past + b.fo.past := by
  show ((Fo.stp (M c) a.fo (s.take a.fo.past)).2 ++ (Fo.stp (M c) b.fo (s.drop a.fo.past)).2).length = _
  rw [List.length_append, stp_len, stp_len]
/-- What both keep behind a path. -/
def keptT (M : Nat → List (List UInt8)) (a b : Tm) (p : List Nat) : List Bool := a.fo.kept (evL M p) p.length ++ b.fo.kept (evL M p) p.length
theorem keptT_len (M : Nat → List (List UInt8)) (a b : Tm) (p : List Nat) : (keptT M a b p).length = a.fo.past + b.fo.past := by
  unfold keptT; rw [List.length_append, Fo.kept_len, Fo.kept_len]
theorem stp_path {M : Nat → List (List UInt8)} {t : Tm} (h : t.fo.shp = true) (hp : t.fo.plainF = true) (p : List Nat) (c : Nat) : Fo.stp (M c) t.fo (t.fo.kept (evL M p) p.length) = ([t.says (evL M (p ++ [c])) p.length], t.fo.kept (evL M (p ++ [c])) (p ++ [c]).length) := by
  have h1 := stp_ok (evL M (p ++ [c])) p.length t.fo h hp
  rw [evL_last, kept_snoc] at h1
  rw [h1, List.length_append]
  rfl
theorem dl_at {M : Nat → List (List UInt8)} {a b : Tm} (ha : a.fo.shp = true) (hpa : a.fo.plainF = true) (hb : b.fo.shp = true) (hpb : b.fo.plainF = true) (p : List Nat) (c : Nat) :
    dlT M a b (keptT M a b p) c = (a.says (evL M (p ++ [c])) p.length, b.says (evL M (p ++ [c])) p.length, keptT M a b (p ++ [c])) := by
  have e1 : (keptT M a b p).take a.fo.past = a.fo.kept (evL M p) p.length := by
    unfold keptT; rw [← Fo.kept_len (evL M p) p.length a.fo, List.take_left]
  have e2 : (keptT M a b p).drop a.fo.past = b.fo.kept (evL M p) p.length := by
    unfold keptT; rw [← Fo.kept_len (evL M p) p.length a.fo, List.drop_left]
  unfold dlT
  rw [e1, e2, stp_path ha hpa, stp_path hb hpb]
  rfl
section
variable {M : Nat → List (List UInt8)} {a b : Tm} (ha : a.fo.shp = true) (hpa : a.fo.plainF = true) (hb : b.fo.shp = true) (hpb : b.fo.plainF = true)
include ha hpa hb hpb
theorem dl_run (p q : List Nat) : (dlT M a b).run (keptT M a b q) p = keptT M a b (q ++ p) := by
  induction p generalizing q with
  | nil => rw [List.append_nil]; rfl
  | cons c p ih =>
    rw [Dl.run]
    have : (dlT M a b).next (keptT M a b q) c = keptT M a b (q ++ [c]) := by unfold Dl.next; rw [dl_at ha hpa hb hpb]
    rw [this, ih (q ++ [c]), List.append_assoc]; rfl
theorem dl_diff (p : List Nat) (c : Nat) : (dlT M a b).diff ((dlT M a b).run (keptT M a b []) p) c ↔ a.says (evL M (p ++ [c])) p.length ≠ b.says (evL M (p ++ [c])) p.length := by
  rw [dl_run ha hpa hb hpb p []]
  unfold Dl.diff
  rw [List.nil_append, dl_at ha hpa hb hpb]
end
/-- The log that the search finds. -/
def agreeT (M : Nat → List (List UInt8)) (m : Nat) (a b : Tm) : Option (List Nat) := outr (dlT M a b) m (2 ^ (a.fo.past + b.fo.past) + 1) 0 [(keptT M a b [], [])]
section
variable {M : Nat → List (List UInt8)} {m : Nat} {a b : Tm} (ha : a.fo.shp = true) (hpa : a.fo.plainF = true) (hb : b.fo.shp = true) (hpb : b.fo.plainF = true)
include ha hpa hb hpb
omit ha hpa hb hpb in
theorem agree_found : FoundR (dlT M a b) m (keptT M a b []) (agreeT M m a b) := search_ok (fun s c _ _ => dl_len M a b s c) (keptT_len M a b [])
/-- They differ: at the last event of the log that was found, at no one before it, and at none of a shorter log. -/
theorem agree_some {q : List Nat} (h : agreeT M m a b = some q) : (∃ u c, q = u ++ [c]) ∧ (∀ c ∈ q, c < m) ∧ (∀ i < q.length, (a.says (evL M q) i = b.says (evL M q) i ↔ i + 1 < q.length)) ∧ ∀ (p : List Nat), (∀ c ∈ p, c < m) → ∀ i < p.length, a.says (evL M p) i ≠ b.says (evL M p) i → q.length ≤ i + 1 := by
  have hf := agree_found (M := M) (m := m) (a := a) (b := b)
  rw [h] at hf
  obtain ⟨w, c, rfl, h2, h3, h4, h5⟩ := hf
  rw [dl_diff ha hpa hb hpb] at h3
  refine ⟨⟨w, c, rfl⟩, h2, fun i hi => ?_, fun p hp i hi hd => ?_⟩
  · simp only [List.length_append, List.length_singleton] at hi ⊢
    by_cases hw : i < w.length
    · refine ⟨fun _ => by omega, fun _ => ?_⟩
      have h6 := h4 (w.take i) w[i] (w.drop (i + 1)) (by rw [List.getElem_cons_drop, List.take_append_drop])
      rw [dl_diff ha hpa hb hpb, Decidable.not_not, List.length_take, Nat.min_eq_left (by omega), ← List.take_succ_eq_append_getElem hw] at h6
      have e : ∀ j ≤ i, (w ++ [c])[j]? = (w.take (i + 1))[j]? := fun j hj => by rw [List.getElem?_append_left (by omega), List.getElem?_take, if_pos (by omega)]
      rw [path_pre a e, path_pre b e]; exact h6
    · have : i = w.length := by omega
      subst this
      exact ⟨fun h => absurd h h3, fun h => by omega⟩
  · have h6 := h5 (p.take i) p[i] (fun d hd => hp d (List.mem_of_mem_take hd)) (hp _ (List.getElem_mem hi)) (by
      rw [dl_diff ha hpa hb hpb, List.length_take, Nat.min_eq_left (by omega), ← List.take_succ_eq_append_getElem hi]
      have e : ∀ j ≤ i, p[j]? = (p.take (i + 1))[j]? := fun j hj => by rw [List.getElem?_take, if_pos (by omega)]
      rw [← path_pre a e, ← path_pre b e]; exact hd)
    rw [List.length_take, Nat.min_eq_left (by omega)] at h6
    rw [List.length_append, List.length_singleton]
    omega
end
end Go.Proofs.YtobpacebpiabcaaGreatDoor
