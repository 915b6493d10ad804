/- Texts Ad Ae Af Ai Aj in one. -/
import Derived.Test.YtobpacebpiabcaaDoorPkAa
import Derived.Lib.SpaceU
namespace Go.Proofs.YtobpacebpiabcaaDoor
open Go.Lib

/-- An event: its day and its marks. -/
abbrev Ev := Int × List (List UInt8)
def dayAt (log : List Ev) (i : Nat) : Int := (log.getD i (0, [])).1
def marksAt (log : List Ev) (i : Nat) : List (List UInt8) := (log.getD i (0, [])).2
def prevS (a : Nat → Bool) : Nat → Bool
  | 0 => false
  | i + 1 => a i
def onceS (a : Nat → Bool) : Nat → Bool
  | 0 => a 0
  | i + 1 => onceS a i || a (i + 1)
def alwS (a : Nat → Bool) : Nat → Bool
  | 0 => a 0
  | i + 1 => alwS a i && a (i + 1)
def sinS (a b : Nat → Bool) : Nat → Bool
  | 0 => b 0
  | i + 1 => b (i + 1) || sinS a b i && a (i + 1)
/-- The last day ahead of event i on which it was so. -/
def lastD (a : Nat → Bool) (log : List Ev) : Nat → Int
  | 0 => -1
  | i + 1 => if a i = true then dayAt log i else lastD a log i
def witS (a : Nat → Bool) (log : List Ev) (n : Int) (i : Nat) : Bool := decide (0 ≤ lastD a log (i + 1)) && decide (dayAt log i - n ≤ lastD a log (i + 1))
def noS : Nat → Bool := fun _ => false
/-- What a node says, of what its kids say. -/
def nodeS (log : List Ev) (k : Int) (nm : List UInt8) (n : Int) (l : List (Nat → Bool)) (i : Nat) : Bool :=
  if k = 1 then true
  else if k = 2 then (marksAt log i).contains nm
  else if k = 3 then !(l.getD 0 noS i)
  else if k = 4 then l.getD 0 noS i && l.getD 1 noS i
  else if k = 5 then l.getD 0 noS i || l.getD 1 noS i
  else if k = 6 then prevS (l.getD 0 noS) i
  else if k = 7 then onceS (l.getD 0 noS) i
  else if k = 8 then alwS (l.getD 0 noS) i
  else if k = 9 then sinS (l.getD 0 noS) (l.getD 1 noS) i
  else witS (l.getD 0 noS) log n i
def saysF (log : List Ev) : Fo → List (Nat → Bool)
  | .nil => []
  | .cons k nm n ks r => nodeS log k nm n (saysF log ks) :: saysF log r
def Tm.says (t : Tm) (log : List Ev) (i : Nat) : Bool := nodeS log t.1 t.2.1 t.2.2.1 (saysF log t.2.2.2) i
def Tm.watch (t : Tm) (log : List Ev) : List Bool := (List.range log.length).map (t.says log)

/-! The document's own loops: from the event back to the first one. -/
/-! What is said depends on what was so till then alone. -/
/-- Which marks a list of terms names. -/
def Fo.names : Fo → List (List UInt8)
  | .nil => []
  | .cons k nm _ ks r => (if k = 2 then [nm] else []) ++ names ks ++ names r
end Go.Proofs.YtobpacebpiabcaaDoor

namespace Go.Proofs.YtobpacebpiabcaaDoor
open Go.Lib

theorem text_inj {t u : Tm} (ht : t.ok = true) (hu : u.ok = true) (h : t.tx = u.tx) : t = u := by
  have h1 := read_text t ht
  rw [h, read_text u hu] at h1
  injection h1 with h1
  injection h1 with h1 _
  exact h1.symm
namespace Fo
def same : Fo → Fo → Bool
  | nil, nil => true
  | cons k nm n ks r, cons k2 nm2 n2 ks2 r2 => decide (k = k2) && decide (nm = nm2) && decide (n = n2) && same ks ks2 && same r r2
  | nil, cons _ _ _ _ _ => false
  | cons _ _ _ _ _, nil => false
theorem same_iff : ∀ (f g : Fo), same f g = true ↔ f = g
  | nil, nil => by simp [same]
  | cons k nm n ks r, cons k2 nm2 n2 ks2 r2 => by simp [same, same_iff ks ks2, same_iff r r2, and_assoc]
  | nil, cons _ _ _ _ _ => by simp [same]
  | cons _ _ _ _ _, nil => by simp [same]
end Fo
def Tm.same (t u : Tm) : Bool := Fo.same t.fo u.fo
theorem Tm.same_iff (t u : Tm) : t.same u = true ↔ t = u := by
  obtain ⟨k, nm, n, ks⟩ := t
  obtain ⟨k2, nm2, n2, ks2⟩ := u
  unfold Tm.same
  rw [Fo.same_iff]
  simp [Tm.fo]
def yesT : Tm := (1, [], 0, .nil)
/-- The shorter node s stands for a node. -/
structure Sh (k : Int) (nm : List UInt8) (n : Int) (ks : Fo) (s : Tm) : Prop where
  shp : s.fo.shp = true
  cnt : s.fo.cnt ≤ ks.cnt + 1
  names : ∀ x ∈ s.fo.names, x ∈ (Fo.cons k nm n ks .nil).names
  says : ∀ log, (∀ i, 0 ≤ dayAt log i) → ∀ i, s.says log i = nodeS log k nm n (saysF log ks) i
theorem Sh.own {k : Int} {nm : List UInt8} {n : Int} {ks : Fo} (h : okN k nm n ks.len = true) (h2 : ks.shp = true) : Sh k nm n ks (k, nm, n, ks) :=
  ⟨by simp [Tm.fo, Fo.shp, h, h2], by simp [Tm.fo, Fo.cnt], fun _ hx => hx, fun _ _ _ => rfl⟩
end Go.Proofs.YtobpacebpiabcaaDoor

namespace Go.Proofs.YtobpacebpiabcaaDoor
open Go.Lib

def oneT (k : Int) (n : Int) (a : Tm) : Tm := (k, [], n, a.fo)
def twoT (k : Int) (a b : Tm) : Tm := (k, [], 0, .cons a.1 a.2.1 a.2.2.1 a.2.2.2 b.fo)
/-! The laws. -/
end Go.Proofs.YtobpacebpiabcaaDoor

namespace Go.Proofs.YtobpacebpiabcaaDoor
open Go.Lib

/-- Letters and digits. -/
def ldB (c : UInt8) : Bool := letB c || digB c
def tw (s : List UInt8) : List UInt8 := s.takeWhile ldB
def begB (s w : List UInt8) : Bool := w.isPrefixOf s
/-- The digits that are read behind 'within ', at most so many of them: their number and how many there are. -/
def digs : Nat → Int → List UInt8 → Int × List UInt8
  | 0, n, s => (n, s)
  | _ + 1, n, [] => (n, [])
  | q + 1, n, c :: s => if digB c = true then digs q (10 * n + ((c.toNat : Int) - 48)) s else (n, c :: s)
def two2 (rest : List UInt8) : Option (Int × List UInt8) :=
  if begB rest (sp ++ wAnd ++ sp) = true then some (4, rest.drop 5) else if begB rest (sp ++ wOr ++ sp) = true then some (5, rest.drop 4) else if begB rest (sp ++ wSince ++ sp) = true then some (9, rest.drop 7) else none
def one2 (s : List UInt8) : Option (Int × List UInt8) :=
  if begB s (wNot ++ sp) = true then some (3, s.drop 4) else if begB s (wPrev ++ sp) = true then some (6, s.drop 5) else if begB s (wOnce ++ sp) = true then some (7, s.drop 5) else if begB s (wAlways ++ sp) = true then some (8, s.drop 7) else none
def rt : Nat → List UInt8 → Option (Tm × List UInt8)
  | 0, _ => none
  | m + 1, s =>
    if begB s [40] = true then
      match rt m (s.drop 1) with
      | none => none
      | some (a, rest) =>
        match two2 rest with
        | none => none
        | some (k, r) =>
          match rt m r with
          | none => none
          | some (b, left) => if begB left [41] = true then some (twoT k a b, left.drop 1) else none
    else
      match one2 s with
      | some (k, r) =>
        match rt m r with
        | none => none
        | some (a, rest) => some (oneT k 0 a, rest)
      | none =>
        if begB s (wWithin ++ sp) = true then
          if begB (digs 8 0 (s.drop 7)).2 sp = true then
            match rt m ((digs 8 0 (s.drop 7)).2.drop 1) with
            | none => none
            | some (a, rest) => some (oneT 10 (digs 8 0 (s.drop 7)).1 a, rest)
          else none
        else if tw s = wTrue then some (yesT, s.drop 4)
        else if isName (tw s) = true then some ((2, tw s, 0, .nil), s.drop (tw s).length)
        else none
/-- What may stand behind a term: nothing, a space or a bracket. -/
def Ends2 (l : List UInt8) : Prop := l = [] ∨ ∃ c m, l = c :: m ∧ ldB c = false
theorem tw_word {w l : List UInt8} (h : w.all ldB = true) (hl : Ends2 l) : tw (w ++ l) = w := by
  unfold tw
  induction w with
  | nil =>
    rcases hl with e | ⟨c, m, e, hc⟩
    · subst e; rfl
    · subst e; simp [hc]
  | cons a w ih =>
    simp only [List.all_cons, Bool.and_eq_true] at h
    rw [List.cons_append, List.takeWhile_cons, if_pos h.1, ih h.2]
theorem beg_eq {s w : List UInt8} (h : begB s w = true) : ∃ r, s = w ++ r := by
  obtain ⟨r, hr⟩ := List.isPrefixOf_iff_prefix.1 h
  exact ⟨r, hr.symm⟩
theorem beg_app (w r : List UInt8) : begB (w ++ r) w = true := List.isPrefixOf_iff_prefix.2 ⟨r, rfl⟩
theorem ends_sp (r : List UInt8) : Ends2 (sp ++ r) := .inr ⟨32, r, rfl, by decide⟩
/-- A text begins with a word and a space if its first letters are that word. -/
theorem beg_tw {s w : List UInt8} (hw : w.all ldB = true) (h : begB s (w ++ sp) = true) : tw s = w := by
  obtain ⟨r, e⟩ := beg_eq h
  rw [e, List.append_assoc]
  exact tw_word hw (ends_sp r)
theorem beg_not {s w : List UInt8} (hw : w.all ldB = true) (h : tw s ≠ w) : begB s (w ++ sp) = false := by
  cases hb : begB s (w ++ sp) with
  | false => rfl
  | true => exact absurd (beg_tw hw hb) h
theorem beg_br {s : List UInt8} (h : tw s ≠ []) : begB s [40] = false := by
  cases hb : begB s [40] with
  | false => rfl
  | true =>
    obtain ⟨r, e⟩ := beg_eq hb
    subst e
    exact absurd rfl h
theorem one2_none {s : List UInt8} (h1 : tw s ≠ wNot) (h2 : tw s ≠ wPrev) (h3 : tw s ≠ wOnce) (h4 : tw s ≠ wAlways) : one2 s = none := by
  unfold one2
  rw [beg_not (by decide) h1, beg_not (by decide) h2, beg_not (by decide) h3, beg_not (by decide) h4]
  rfl
theorem digs_all : ∀ (l : List UInt8) (q : Nat) (n : Nat) (r : List UInt8), (∀ c ∈ l, isDig c) → l.length ≤ q → (r = [] ∨ ∃ c m, r = c :: m ∧ digB c = false) → digs q (n : Int) (l ++ r) = (((valD n l : Nat) : Int), r)
  | [], q, n, r, _, _, hr => by
    rcases hr with e | ⟨c, m, e, hc⟩
    · subst e; cases q <;> rfl
    · subst e
      cases q with
      | zero => rfl
      | succ q => show digs (q + 1) n (c :: m) = _; rw [digs, if_neg (by rw [hc]; decide)]; rfl
  | c :: l, q, n, r, h, hq, hr => by
    have hc := h c (by simp)
    obtain ⟨q, rfl⟩ : ∃ p, q = p + 1 := ⟨q - 1, by simp at hq; omega⟩
    have hd : digB c = true := by unfold isDig at hc; simp [digB, hc.1, hc.2]
    rw [List.cons_append, digs, if_pos hd]
    have e : 10 * (n : Int) + ((c.toNat : Int) - 48) = ((n * 10 + (c.toNat - 48) : Nat) : Int) := by unfold isDig at hc; omega
    rw [e, digs_all l q _ r (fun x hx => h x (by simp [hx])) (by simpa using hq) hr]
    rfl
theorem rt_br {m : Nat} {s : List UInt8} {a b : Tm} {rest r left : List UInt8} {k : Int} (h : begB s [40] = true) (h1 : rt m (s.drop 1) = some (a, rest)) (h2 : two2 rest = some (k, r)) (h3 : rt m r = some (b, left)) (h4 : begB left [41] = true) : rt (m + 1) s = some (twoT k a b, left.drop 1) := by
  rw [rt, if_pos h, h1]
  simp only [h2, h3, h4, if_true]
theorem rt_one {m : Nat} {s r rest : List UInt8} {a : Tm} {k : Int} (h : begB s [40] = false) (h1 : one2 s = some (k, r)) (h2 : rt m r = some (a, rest)) : rt (m + 1) s = some (oneT k 0 a, rest) := by
  rw [rt, if_neg (by rw [h]; decide), h1]
  simp only [h2]
theorem rt_within {m : Nat} {s rest : List UInt8} {a : Tm} (h : begB s [40] = false) (h1 : one2 s = none) (h2 : begB s (wWithin ++ sp) = true) (h3 : begB (digs 8 0 (s.drop 7)).2 sp = true) (h4 : rt m ((digs 8 0 (s.drop 7)).2.drop 1) = some (a, rest)) :
    rt (m + 1) s = some (oneT 10 (digs 8 0 (s.drop 7)).1 a, rest) := by
  rw [rt, if_neg (by rw [h]; decide), h1]
  simp only [h2, h3, h4, if_true]
theorem rt_word {m : Nat} {s : List UInt8} (h : begB s [40] = false) (h1 : one2 s = none) (h2 : begB s (wWithin ++ sp) = false) :
    rt (m + 1) s = if tw s = wTrue then some (yesT, s.drop 4) else if isName (tw s) = true then some ((2, tw s, 0, .nil), s.drop (tw s).length) else none := by
  rw [rt, if_neg (by rw [h]; decide), h1]
  simp only [h2, Bool.false_eq_true, if_false]
/-- Each term of the list is read from its text. -/
def AllRt : Fo → Prop
  | .nil => True
  | .cons k nm n ks r => (∀ (m : Nat) rest, ks.cnt + 1 ≤ m → Ends2 rest → rt m (nodeT k nm n ks.txts ++ rest) = some ((k, nm, n, ks), rest)) ∧ AllRt r
theorem two2_at {w r : List UInt8} {k : Int} (h : (w, k) = (wAnd, 4) ∨ (w, k) = (wOr, 5) ∨ (w, k) = (wSince, 9)) : two2 (sp ++ w ++ sp ++ r) = some (k, r) := by
  rcases h with e | e | e <;> (injection e with e1 e2; subst e1 e2; rfl)
theorem one2_at {w r : List UInt8} {k : Int} (h : (w, k) = (wNot, 3) ∨ (w, k) = (wPrev, 6) ∨ (w, k) = (wOnce, 7) ∨ (w, k) = (wAlways, 8)) : one2 (w ++ sp ++ r) = some (k, r) := by
  rcases h with e | e | e | e <;> (injection e with e1 e2; subst e1 e2; rfl)
theorem all_rt : ∀ (f : Fo), f.shp = true → AllRt f
  | .nil, _ => trivial
  | .cons k nm n ks r, h => by
    simp only [Fo.shp, Bool.and_eq_true] at h
    have ik := all_rt ks h.1.2
    refine ⟨fun m rest hm hr => ?_, all_rt r h.2⟩
    obtain ⟨m, rfl⟩ : ∃ q, m = q + 1 := ⟨m - 1, by omega⟩
    rcases kids_is h.1.1 with ⟨e, hc, e1, e2⟩ | ⟨e, hc, hn, e2⟩ | ⟨e, hc, e1, e2⟩ | ⟨e, hc, e1, hn, hn2⟩ | ⟨e, hc, e1, e2⟩
    · rw [Fo.len_zero hc]; subst e e1 e2
      have ht : tw (wTrue ++ rest) = wTrue := tw_word (by decide) hr
      show rt (m + 1) (wTrue ++ rest) = _
      rw [rt_word (beg_br (by rw [ht]; decide)) (one2_none (by rw [ht]; decide) (by rw [ht]; decide) (by rw [ht]; decide) (by rw [ht]; decide)) (beg_not (by decide) (by rw [ht]; decide)), if_pos ht]
      rfl
    · rw [Fo.len_zero hc]; subst e e2
      have hall : nm.all ldB = true := by
        simp only [isName, Bool.and_eq_true] at hn
        exact hn.1.2
      have ht : tw (nm ++ rest) = nm := tw_word hall hr
      have hw : ∀ w ∈ words, nm ≠ w := fun w hw e => by
        subst e
        simp only [isName, Bool.and_eq_true, Bool.not_eq_true'] at hn
        have := hn.2
        rw [List.contains_eq_mem, decide_eq_false_iff_not] at this
        exact this hw
      show rt (m + 1) (nm ++ rest) = _
      rw [rt_word (beg_br (by rw [ht]; exact (name_wb hn).1)) (one2_none (by rw [ht]; exact hw _ (by simp [words])) (by rw [ht]; exact hw _ (by simp [words])) (by rw [ht]; exact hw _ (by simp [words])) (by rw [ht]; exact hw _ (by simp [words]))) (beg_not (by decide) (by rw [ht]; exact hw _ (by simp [words]))), ht, if_neg (hw _ (by simp [words])), if_pos hn, List.drop_left]
    · obtain ⟨a, b, c, d, rfl⟩ := Fo.len_one hc
      simp only [Fo.cnt] at hm
      have hr' := ik.1 m rest (by omega) hr
      have main : ∀ (w : List UInt8) (kk : Int), ((w, kk) = (wNot, 3) ∨ (w, kk) = (wPrev, 6) ∨ (w, kk) = (wOnce, 7) ∨ (w, kk) = (wAlways, 8)) → rt (m + 1) (w ++ sp ++ nodeT a b c d.txts ++ rest) = some ((kk, [], 0, .cons a b c d .nil), rest) := fun w kk hk => by
        rw [List.append_assoc (w ++ sp)]
        refine rt_one (a := (a, b, c, d)) ?_ (one2_at hk) hr'
        rcases hk with e | e | e | e <;> (injection e with e1 e2; subst e1 e2; rfl)
      rcases e with e | e | e | e <;> subst e e1 e2
      · exact main wNot 3 (.inl rfl)
      · exact main wPrev 6 (.inr (.inl rfl))
      · exact main wOnce 7 (.inr (.inr (.inl rfl)))
      · exact main wAlways 8 (.inr (.inr (.inr rfl)))
    · obtain ⟨a, b, c, d, rfl⟩ := Fo.len_one hc
      simp only [Fo.cnt] at hm
      have hr' := ik.1 m rest (by omega) hr
      subst e e1
      have e0 : nodeT 10 [] n (Fo.cons a b c d .nil).txts ++ rest = wWithin ++ (sp ++ (itoa n ++ (sp ++ (nodeT a b c d.txts ++ rest)))) := by
        show wWithin ++ sp ++ itoa n ++ sp ++ nodeT a b c d.txts ++ rest = _
        simp
      rw [e0]
      have ht : tw (wWithin ++ (sp ++ (itoa n ++ (sp ++ (nodeT a b c d.txts ++ rest))))) = wWithin := tw_word (by decide) (ends_sp _)
      have hdig : digs 8 0 (itoa n ++ (sp ++ (nodeT a b c d.txts ++ rest))) = (n, sp ++ (nodeT a b c d.txts ++ rest)) := by
        have hi : itoa n = decDigits n.toNat := by unfold itoa; rw [if_neg (by omega)]
        rw [hi]
        have := digs_all (decDigits n.toNat) 8 0 (sp ++ (nodeT a b c d.txts ++ rest)) (dec_dig _) (dec_len 7 n.toNat (by omega)) (.inr ⟨32, _, rfl, by decide⟩)
        rw [dec_val] at this
        refine this.trans ?_
        rw [show ((n.toNat : Nat) : Int) = n by omega]
      have hdrop : (wWithin ++ (sp ++ (itoa n ++ (sp ++ (nodeT a b c d.txts ++ rest))))).drop 7 = itoa n ++ (sp ++ (nodeT a b c d.txts ++ rest)) := rfl
      have := rt_within (m := m) (a := (a, b, c, d)) (rest := rest) (beg_br (by rw [ht]; decide)) (one2_none (by rw [ht]; decide) (by rw [ht]; decide) (by rw [ht]; decide) (by rw [ht]; decide)) (by rw [← List.append_assoc]; exact beg_app _ _) (by rw [hdrop, hdig]; exact beg_app _ _) (by rw [hdrop, hdig]; exact hr')
      rw [this, hdrop, hdig]; rfl
    · obtain ⟨a, b, c, d, a2, b2, c2, d2, rfl⟩ := Fo.len_two hc
      simp only [Fo.cnt] at hm
      have main : ∀ (w : List UInt8) (kk : Int), ((w, kk) = (wAnd, 4) ∨ (w, kk) = (wOr, 5) ∨ (w, kk) = (wSince, 9)) → rt (m + 1) ([40] ++ nodeT a b c d.txts ++ sp ++ w ++ sp ++ nodeT a2 b2 c2 d2.txts ++ [41] ++ rest) = some ((kk, [], 0, .cons a b c d (.cons a2 b2 c2 d2 .nil)), rest) := fun w kk hk => by
        have e0 : [40] ++ nodeT a b c d.txts ++ sp ++ w ++ sp ++ nodeT a2 b2 c2 d2.txts ++ [41] ++ rest = [40] ++ (nodeT a b c d.txts ++ (sp ++ w ++ sp ++ (nodeT a2 b2 c2 d2.txts ++ ([41] ++ rest)))) := by simp
        rw [e0]
        have h1 := ik.1 m (sp ++ w ++ sp ++ (nodeT a2 b2 c2 d2.txts ++ ([41] ++ rest))) (by omega) (by rw [List.append_assoc, List.append_assoc]; exact ends_sp _)
        have h3 := ik.2.1 m ([41] ++ rest) (by omega) (.inr ⟨41, rest, rfl, by decide⟩)
        exact rt_br (a := (a, b, c, d)) (b := (a2, b2, c2, d2)) (beg_app _ _) h1 (two2_at hk) h3 (beg_app _ _)
      rcases e with e | e | e <;> subst e e1 e2
      · exact main wAnd 4 (.inl rfl)
      · exact main wOr 5 (.inr (.inl rfl))
      · exact main wSince 9 (.inr (.inr rfl))
/-- What the document's reader makes of a valid term's text. -/
theorem rt_text (t : Tm) (h : t.ok = true) : rt 65 t.tx = some (t, []) := by
  simp only [Tm.ok, Bool.and_eq_true, decide_eq_true_eq] at h
  have hr := (all_rt t.fo h.1).1 65 [] (by have := h.2; simp only [Tm.fo, Fo.cnt] at this; omega) (.inl rfl)
  rw [List.append_nil] at hr
  exact hr
/-- The term whose text is s, if there is one. -/
noncomputable def parseT (s : List UInt8) : Option Tm := by
  classical
  exact if h : ∃ t : Tm, t.ok = true ∧ t.tx = s then some h.choose else none
theorem parseT_some {s : List UInt8} {t : Tm} : parseT s = some t ↔ t.ok = true ∧ t.tx = s := by
  unfold parseT
  by_cases h : ∃ t : Tm, t.ok = true ∧ t.tx = s
  · rw [dif_pos h]
    have hc := h.choose_spec
    constructor
    · intro e
      injection e with e
      rw [← e]; exact hc
    · rintro ⟨h1, h2⟩
      rw [text_inj hc.1 h1 (hc.2.trans h2.symm)]
  · rw [dif_neg h]
    exact ⟨fun e => (by cases e), fun e => absurd ⟨t, e⟩ h⟩
theorem parseT_none {s : List UInt8} : parseT s = none ↔ ¬ ∃ t : Tm, t.ok = true ∧ t.tx = s := by
  constructor
  · rintro h ⟨t, ht⟩
    rw [parseT_some.2 ht] at h
    cases h
  · intro h
    cases hp : parseT s with
    | none => rfl
    | some t => exact absurd ⟨t, parseT_some.1 hp⟩ h
end Go.Proofs.YtobpacebpiabcaaDoor

namespace Go.Proofs.YtobpacebpiabcaaDoor
open Go.Lib

/-- All bytes are below 128. -/
def ascii (l : List UInt8) : Bool := l.all (fun c => decide (c.toNat < 128))
theorem ascii_iff {l : List UInt8} : ascii l = true ↔ ∀ c ∈ l, c.toNat < 128 := by simp [ascii]
theorem ascii_append {l m : List UInt8} (h : ascii l = true) (k : ascii m = true) : ascii (l ++ m) = true := by
  rw [ascii_iff] at *
  intro c hc
  rcases List.mem_append.1 hc with hc | hc
  · exact h c hc
  · exact k c hc
/-- The words of a text. -/
def fieldsX (l : List UInt8) : List (List UInt8) := if ascii l then fields l else fieldsD l
/-- What the program's Parse gives. -/
def progP (s : List UInt8) : Option Tm := match rdv 64 (fieldsX (apart s)) with
  | some x => if x.1.ok && decide (x.1.tx = s) then some x.1 else none
  | none => none
/-- What the document's Parse gives. -/
def refP (s : List UInt8) : Option Tm := match rt 65 s with
  | some x => if decide (x.2 = []) && x.1.ok && decide (x.1.tx = s) then some x.1 else none
  | none => none
theorem rep1_ascii (c : UInt8) (new : List UInt8) (hn : ascii new = true) : ∀ (l : List UInt8), ascii l = true → ascii (rep1 c new l) = true
  | [], _ => rfl
  | b :: l, h => by
    rw [ascii_iff] at h
    have h1 := rep1_ascii c new hn l (ascii_iff.2 fun x hx => h x (by simp [hx]))
    rw [rep1]
    refine ascii_append ?_ h1
    by_cases e : b = c
    · rw [if_pos e]; exact hn
    · rw [if_neg e]; exact ascii_iff.2 fun x hx => h x (by simp at hx; simp [hx])
theorem apart_ascii {l : List UInt8} (h : ascii l = true) : ascii (apart l) = true := rep1_ascii _ _ (by decide) _ (rep1_ascii _ _ (by decide) _ h)
theorem wb_ascii {l : List UInt8} (h : ∀ c ∈ l, wb c) : ascii l = true := ascii_iff.2 fun c hc => (h c hc).2.2.2
theorem getD_ascii {l : List (List UInt8)} (h : ∀ t ∈ l, ascii t = true) (i : Nat) : ascii (l.getD i []) = true := by
  by_cases hi : i < l.length
  · rw [List.getD_eq_getElem?_getD, List.getElem?_eq_getElem hi]; exact h _ (List.getElem_mem hi)
  · rw [List.getD_eq_getElem?_getD, List.getElem?_eq_none (by omega)]; rfl
theorem node_ascii {k : Int} {nm : List UInt8} {n : Int} {c : Nat} {l : List (List UInt8)} (h : okN k nm n c = true) (hl : ∀ t ∈ l, ascii t = true) : ascii (nodeT k nm n l) = true := by
  have h0 := getD_ascii hl 0
  have h1 := getD_ascii hl 1
  unfold okN at h
  simp only [Bool.and_eq_true] at h
  unfold nodeT
  split
  · rename_i e
    have := h.1.2
    rw [if_pos e] at this
    exact wb_ascii (name_wb this).2
  repeat' split
  · exact ascii_append (by decide) h0
  · exact ascii_append (by decide) h0
  · exact ascii_append (by decide) h0
  · exact ascii_append (by decide) h0
  · rename_i e
    have := h.2
    rw [if_pos e] at this
    simp at this
    exact ascii_append (ascii_append (ascii_append (by decide) (wb_ascii (itoa_wb this.1).2)) (by decide)) h0
  · exact ascii_append (ascii_append (ascii_append (ascii_append (ascii_append (ascii_append (by decide) h0) (by decide)) (by decide)) (by decide)) h1) (by decide)
  · exact ascii_append (ascii_append (ascii_append (ascii_append (ascii_append (ascii_append (by decide) h0) (by decide)) (by decide)) (by decide)) h1) (by decide)
  · exact ascii_append (ascii_append (ascii_append (ascii_append (ascii_append (ascii_append (by decide) h0) (by decide)) (by decide)) (by decide)) h1) (by decide)
  · decide
theorem txts_ascii : ∀ (f : Fo), f.shp = true → ∀ t ∈ f.txts, ascii t = true
  | .nil, _, t, h => by simp [Fo.txts] at h
  | .cons k nm n ks r, h, t, ht => by
    simp only [Fo.shp, Bool.and_eq_true] at h
    simp only [Fo.txts, List.mem_cons] at ht
    rcases ht with rfl | ht
    · exact node_ascii h.1.1 (txts_ascii ks h.1.2)
    · exact txts_ascii r h.2 t ht
theorem Tm.ok_shp {t : Tm} (h : t.ok = true) : okN t.1 t.2.1 t.2.2.1 t.2.2.2.len = true ∧ t.2.2.2.shp = true ∧ t.2.2.2.cnt + 1 ≤ 64 := by
  unfold Tm.ok Tm.fo at h
  simp only [Fo.shp, Fo.cnt, Bool.and_eq_true, Bool.and_true, Nat.add_zero] at h
  exact ⟨h.1.1, h.1.2, of_decide_eq_true h.2⟩
theorem tx_ascii {t : Tm} (h : t.ok = true) : ascii t.tx = true := node_ascii (Tm.ok_shp h).1 (txts_ascii _ (Tm.ok_shp h).2.1)
theorem progP_eq (s : List UInt8) : progP s = parseT s := by
  cases hp : parseT s with
  | some t =>
    obtain ⟨h1, h2⟩ := parseT_some.1 hp
    unfold progP
    rw [show fieldsX (apart s) = fields (apart s) by rw [fieldsX, if_pos (by rw [← h2]; exact apart_ascii (tx_ascii h1))], ← h2, read_text t h1]
    simp [h1]
  | none =>
    have hn := parseT_none.1 hp
    unfold progP
    split
    · rename_i x hx
      split
      · rename_i h
        simp only [Bool.and_eq_true, decide_eq_true_eq] at h
        exact absurd ⟨x.1, h.1, h.2⟩ hn
      · rfl
    · rfl
theorem refP_eq (s : List UInt8) : refP s = parseT s := by
  cases hp : parseT s with
  | some t =>
    obtain ⟨h1, h2⟩ := parseT_some.1 hp
    unfold refP
    rw [← h2, rt_text t h1]
    simp [h1]
  | none =>
    have hn := parseT_none.1 hp
    unfold refP
    split
    · rename_i x hx
      split
      · rename_i h
        simp only [Bool.and_eq_true, decide_eq_true_eq] at h
        exact absurd ⟨x.1, h.1.2, h.2⟩ hn
      · rfl
    · rfl

/-! How long texts are. -/
def sumL (l : List (List UInt8)) : Nat := (l.map List.length).sum
theorem sumL_get : ∀ (l : List (List UInt8)), (l.getD 0 []).length + (l.getD 1 []).length ≤ sumL l
  | [] => by simp [sumL]
  | [a] => by simp [sumL]
  | a :: b :: l => by simp [sumL]
theorem itoa_len {n : Int} (h : 0 ≤ n) (h2 : n ≤ 1000000) : (itoa n).length ≤ 7 := by
  obtain ⟨u, rfl⟩ := Int.eq_ofNat_of_zero_le h
  have := dec_len 6 u (by omega)
  have e : itoa (u : Int) = decDigits u := by unfold itoa; simp
  rw [e]; omega
theorem node_len {k : Int} {nm : List UInt8} {n : Int} {c : Nat} {l : List (List UInt8)} (h : okN k nm n c = true) : (nodeT k nm n l).length ≤ 16 + sumL l := by
  have hs := sumL_get l
  unfold okN at h
  simp only [Bool.and_eq_true] at h
  unfold nodeT
  split
  · rename_i e
    have := h.1.2
    rw [if_pos e] at this
    simp only [isName, Bool.and_eq_true, decide_eq_true_eq] at this
    omega
  repeat' split
  all_goals (try (simp only [List.length_append, show wNot.length = 3 from rfl, show sp.length = 1 from rfl, show wPrev.length = 4 from rfl, show wOnce.length = 4 from rfl, show wAlways.length = 6 from rfl, show wAnd.length = 3 from rfl, show wOr.length = 2 from rfl, show wSince.length = 5 from rfl, show wTrue.length = 4 from rfl, List.length_cons, List.length_nil]; omega))
  rename_i e
  have := h.2
  rw [if_pos e] at this
  simp only [Bool.and_eq_true, decide_eq_true_eq] at this
  have hi := itoa_len this.1 this.2
  simp only [List.length_append, show wWithin.length = 6 from rfl, show sp.length = 1 from rfl]
  omega
theorem txts_len : ∀ (f : Fo), f.shp = true → sumL f.txts ≤ 16 * f.cnt
  | .nil, _ => by simp [Fo.txts, sumL]
  | .cons k nm n ks r, h => by
    simp only [Fo.shp, Bool.and_eq_true] at h
    have h1 := node_len (l := ks.txts) h.1.1
    have h2 := txts_len ks h.1.2
    have h3 := txts_len r h.2
    simp only [Fo.txts, sumL, List.map_cons, List.sum_cons, Fo.cnt] at *
    omega
theorem tx_len {t : Tm} (h : t.fo.shp = true) : t.tx.length ≤ 16 * t.fo.cnt := by
  have := txts_len t.fo h
  simp only [Tm.fo, Fo.txts, sumL, List.map_cons, List.map_nil, List.sum_cons, List.sum_nil] at this
  exact this

/-! How long words are. -/
theorem fieldsGo_len : ∀ (l cur : List UInt8) , (fieldsGo cur l).length ≤ 1 + l.length ∧ ∀ w ∈ fieldsGo cur l, w.length ≤ cur.length + l.length
  | [], cur => by
    rw [fieldsGo]
    split <;> simp
  | b :: l, cur => by
    rw [fieldsGo]
    split
    · have h1 := fieldsGo_len l []
      split
      · exact ⟨by simp; omega, fun w hw => by have := h1.2 w hw; simp at this ⊢; omega⟩
      · refine ⟨by simp; omega, fun w hw => ?_⟩
        rcases List.mem_cons.1 hw with rfl | hw
        · simp
        · have := h1.2 w hw; simp at this ⊢; omega
    · have h1 := fieldsGo_len l (cur ++ [b])
      exact ⟨by simp; omega, fun w hw => by have := h1.2 w hw; simp at this ⊢; omega⟩
theorem fieldsGoD_len : ∀ (f : Nat) (l cur : List UInt8), (fieldsGoD f cur l).length ≤ 1 + f ∧ ∀ w ∈ fieldsGoD f cur l, w.length ≤ cur.length + l.length
  | 0, l, cur => by
    rw [fieldsGoD]
    split
    · simp
    · refine ⟨by simp, fun w hw => ?_⟩
      simp at hw; rw [hw]; omega
  | f + 1, l, cur => by
    rw [fieldsGoD]
    split
    · split
      · simp
      · refine ⟨by simp, fun w hw => ?_⟩
        simp at hw; rw [hw]; omega
    split
    · have h1 := fieldsGoD_len f (l.drop (decodeL l).2) []
      refine ⟨?_, fun w hw => ?_⟩
      · rw [List.length_append]
        split <;> simp <;> omega
      · rcases List.mem_append.1 hw with hw | hw
        · split at hw
          · cases hw
          · simp at hw; rw [hw]; omega
        · have := h1.2 w hw; simp at this; omega
    · have h1 := fieldsGoD_len f (l.drop (decodeL l).2) (cur ++ l.take (decodeL l).2)
      exact ⟨by omega, fun w hw => by have := h1.2 w hw; simp at this; omega⟩
theorem fieldsX_len (l : List UInt8) : (fieldsX l).length ≤ 2 + l.length ∧ ∀ w ∈ fieldsX l, w.length ≤ l.length := by
  unfold fieldsX fields fieldsD
  split
  · have := fieldsGo_len l []
    exact ⟨by omega, fun w hw => by have := this.2 w hw; simpa using this⟩
  · have := fieldsGoD_len (l.length + 1) l []
    exact ⟨by omega, fun w hw => by have := this.2 w hw; simpa using this⟩
theorem rep1_len_le (c : UInt8) (new : List UInt8) (hn : new.length ≤ 2) : ∀ (l : List UInt8), (rep1 c new l).length ≤ 2 * l.length
  | [] => by simp [rep1]
  | b :: l => by
    have := rep1_len_le c new hn l
    rw [rep1, List.length_append, List.length_cons]
    split <;> simp <;> omega
theorem apart_len (l : List UInt8) : (apart l).length ≤ 4 * l.length := by
  have h1 := rep1_len_le 41 [32, 41] (by simp) (rep1 40 [40, 32] l)
  have h2 := rep1_len_le 40 [40, 32] (by simp) l
  unfold apart
  omega
end Go.Proofs.YtobpacebpiabcaaDoor
