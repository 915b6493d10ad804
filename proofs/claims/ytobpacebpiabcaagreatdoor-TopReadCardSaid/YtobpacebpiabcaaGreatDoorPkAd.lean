/- Texts Ad Ae Af Ai Aj Ag Ah in one. -/
import Derived.Test.YtobpacebpiabcaaGreatDoorPkAa
import Derived.Lib.SpaceU
namespace Go.Proofs.YtobpacebpiabcaaGreatDoor
open Go.Lib

/-- An event: its day and its marks. -/
abbrev Ev := Int × List (List UInt8)
def dayAt (log : List Ev) (i : Nat) : Int := (log.getD i (0, [])).1
def marksAt (log : List Ev) (i : Nat) : List (List UInt8) := (log.getD i (0, [])).2
def prevS (a : Nat → Bool) : Nat → Bool
  | 0 => false
  | i + 1 => a i
def onceS (a : Nat → Bool) : Nat → Bool
  | 0 => a 0
  | i + 1 => onceS a i || a (i + 1)
def alwS (a : Nat → Bool) : Nat → Bool
  | 0 => a 0
  | i + 1 => alwS a i && a (i + 1)
def sinS (a b : Nat → Bool) : Nat → Bool
  | 0 => b 0
  | i + 1 => b (i + 1) || sinS a b i && a (i + 1)
/-- The last day ahead of event i on which it was so. -/
def lastD (a : Nat → Bool) (log : List Ev) : Nat → Int
  | 0 => -1
  | i + 1 => if a i = true then dayAt log i else lastD a log i
def witS (a : Nat → Bool) (log : List Ev) (n : Int) (i : Nat) : Bool := decide (0 ≤ lastD a log (i + 1)) && decide (dayAt log i - n ≤ lastD a log (i + 1))
def noS : Nat → Bool := fun _ => false
/-- What a node says, of what its kids say. -/
def nodeS (log : List Ev) (k : Int) (nm : List UInt8) (n : Int) (l : List (Nat → Bool)) (i : Nat) : Bool :=
  if k = 1 then true
  else if k = 2 then (marksAt log i).contains nm
  else if k = 3 then !(l.getD 0 noS i)
  else if k = 4 then l.getD 0 noS i && l.getD 1 noS i
  else if k = 5 then l.getD 0 noS i || l.getD 1 noS i
  else if k = 6 then prevS (l.getD 0 noS) i
  else if k = 7 then onceS (l.getD 0 noS) i
  else if k = 8 then alwS (l.getD 0 noS) i
  else if k = 9 then sinS (l.getD 0 noS) (l.getD 1 noS) i
  else witS (l.getD 0 noS) log n i
def saysF (log : List Ev) : Fo → List (Nat → Bool)
  | .nil => []
  | .cons k nm n ks r => nodeS log k nm n (saysF log ks) :: saysF log r
def Tm.says (t : Tm) (log : List Ev) (i : Nat) : Bool := nodeS log t.1 t.2.1 t.2.2.1 (saysF log t.2.2.2) i
def Tm.watch (t : Tm) (log : List Ev) : List Bool := (List.range log.length).map (t.says log)

/-! The document's own loops: from the event back to the first one. -/
def downP (f : Bool × Bool → Nat → Bool × Bool) : Nat → Bool × Bool → Bool × Bool
  | 0, x => f x 0
  | j + 1, x => downP f j (f x (j + 1))
theorem lastD_yes {a : Nat → Bool} {log : List Ev} {i : Nat} (h : a i = true) : lastD a log (i + 1) = dayAt log i := by rw [lastD, if_pos h]
/-! What is said depends on what was so till then alone. -/
theorem onceS_congr {a b : Nat → Bool} : ∀ {i : Nat}, (∀ j ≤ i, a j = b j) → onceS a i = onceS b i
  | 0, h => h 0 (Nat.le_refl _)
  | i + 1, h => by rw [onceS, onceS, onceS_congr (i := i) (fun j hj => h j (by omega)), h (i + 1) (Nat.le_refl _)]
theorem alwS_congr {a b : Nat → Bool} : ∀ {i : Nat}, (∀ j ≤ i, a j = b j) → alwS a i = alwS b i
  | 0, h => h 0 (Nat.le_refl _)
  | i + 1, h => by rw [alwS, alwS, alwS_congr (i := i) (fun j hj => h j (by omega)), h (i + 1) (Nat.le_refl _)]
theorem sinS_congr {a b c d : Nat → Bool} : ∀ {i : Nat}, (∀ j ≤ i, a j = c j) → (∀ j ≤ i, b j = d j) → sinS a b i = sinS c d i
  | 0, _, h => h 0 (Nat.le_refl _)
  | i + 1, g, h => by rw [sinS, sinS, sinS_congr (i := i) (fun j hj => g j (by omega)) (fun j hj => h j (by omega)), h (i + 1) (Nat.le_refl _), g (i + 1) (Nat.le_refl _)]
theorem prevS_congr {a b : Nat → Bool} : ∀ {i : Nat}, (∀ j < i, a j = b j) → prevS a i = prevS b i
  | 0, _ => rfl
  | i + 1, h => h i (by omega)
theorem lastD_congr {a b : Nat → Bool} {l m : List Ev} : ∀ {i : Nat}, (∀ j < i, a j = b j) → (∀ j < i, dayAt l j = dayAt m j) → lastD a l i = lastD b m i
  | 0, _, _ => rfl
  | i + 1, h, g => by rw [lastD, lastD, lastD_congr (i := i) (fun j hj => h j (by omega)) (fun j hj => g j (by omega)), h i (by omega), g i (by omega)]
/-- Which marks a list of terms names. -/
def Fo.names : Fo → List (List UInt8)
  | .nil => []
  | .cons k nm _ ks r => (if k = 2 then [nm] else []) ++ names ks ++ names r
/-- Two lists of functions that agree up to i. -/
def Agr (i : Nat) (l m : List (Nat → Bool)) : Prop := l.length = m.length ∧ ∀ k j, j ≤ i → l.getD k noS j = m.getD k noS j
theorem node_agr {l m : List Ev} {k : Int} {nm : List UInt8} {n : Int} {u v : List (Nat → Bool)} {i : Nat} (hd : ∀ j ≤ i, dayAt l j = dayAt m j) (hm : k = 2 → ∀ j ≤ i, (marksAt l j).contains nm = (marksAt m j).contains nm)
    (h : Agr i u v) : ∀ j ≤ i, nodeS l k nm n u j = nodeS m k nm n v j := by
  intro j hj
  have h0 : ∀ q ≤ j, u.getD 0 noS q = v.getD 0 noS q := fun q hq => h.2 0 q (by omega)
  have h1 : ∀ q ≤ j, u.getD 1 noS q = v.getD 1 noS q := fun q hq => h.2 1 q (by omega)
  unfold nodeS
  by_cases k2 : k = 2
  · subst k2; simp only [if_true]; rw [if_neg (by decide), if_neg (by decide)]; exact hm rfl j hj
  rw [if_neg k2, if_neg k2, h0 j (Nat.le_refl _), h1 j (Nat.le_refl _), prevS_congr (fun q hq => h0 q (by omega)), onceS_congr h0, alwS_congr h0, sinS_congr h0 h1]
  unfold witS
  rw [lastD_congr (i := j + 1) (fun q hq => h0 q (by omega)) (fun q hq => hd q (by omega)), hd j hj]
theorem says_agr {l m : List Ev} {i : Nat} (hd : ∀ j ≤ i, dayAt l j = dayAt m j) : ∀ (f : Fo), (∀ nm ∈ f.names, ∀ j ≤ i, (marksAt l j).contains nm = (marksAt m j).contains nm) → Agr i (saysF l f) (saysF m f)
  | .nil, _ => ⟨rfl, fun _ _ _ => rfl⟩
  | .cons k nm n ks r, h => by
    have hk := says_agr hd ks (fun x hx => h x (by simp [Fo.names, hx]))
    have hr := says_agr hd r (fun x hx => h x (by simp [Fo.names, hx]))
    refine ⟨by simp [saysF, hr.1], fun q j hj => ?_⟩
    cases q with
    | zero => exact node_agr (nm := nm) hd (fun e => h nm (by simp [Fo.names, e])) hk j hj
    | succ q => exact hr.2 q j hj
/-- What a term says at event i is the same of two logs that have the same days and, of its marks, the same ones up to then. -/
theorem tm_agr {l m : List Ev} {i : Nat} (t : Tm) (hd : ∀ j ≤ i, dayAt l j = dayAt m j) (hm : ∀ nm ∈ t.fo.names, ∀ j ≤ i, (marksAt l j).contains nm = (marksAt m j).contains nm) : t.says l i = t.says m i := by
  have := (says_agr hd t.fo hm).2 0 i (Nat.le_refl _)
  exact this
end Go.Proofs.YtobpacebpiabcaaGreatDoor

namespace Go.Proofs.YtobpacebpiabcaaGreatDoor
open Go.Lib

theorem text_inj {t u : Tm} (ht : t.ok = true) (hu : u.ok = true) (h : t.tx = u.tx) : t = u := by
  have h1 := read_text t ht
  rw [h, read_text u hu] at h1
  injection h1 with h1
  injection h1 with h1 _
  exact h1.symm
namespace Fo
def same : Fo → Fo → Bool
  | nil, nil => true
  | cons k nm n ks r, cons k2 nm2 n2 ks2 r2 => decide (k = k2) && decide (nm = nm2) && decide (n = n2) && same ks ks2 && same r r2
  | nil, cons _ _ _ _ _ => false
  | cons _ _ _ _ _, nil => false
theorem same_iff : ∀ (f g : Fo), same f g = true ↔ f = g
  | nil, nil => by simp [same]
  | cons k nm n ks r, cons k2 nm2 n2 ks2 r2 => by simp [same, same_iff ks ks2, same_iff r r2, and_assoc]
  | nil, cons _ _ _ _ _ => by simp [same]
  | cons _ _ _ _ _, nil => by simp [same]
end Fo
def Tm.same (t u : Tm) : Bool := Fo.same t.fo u.fo
theorem Tm.same_iff (t u : Tm) : t.same u = true ↔ t = u := by
  obtain ⟨k, nm, n, ks⟩ := t
  obtain ⟨k2, nm2, n2, ks2⟩ := u
  unfold Tm.same
  rw [Fo.same_iff]
  simp [Tm.fo]
def yesT : Tm := (1, [], 0, .nil)
def get0 : Fo → Tm
  | .nil => (0, [], 0, .nil)
  | .cons k nm n ks _ => (k, nm, n, ks)
def get1 : Fo → Tm
  | .nil => (0, [], 0, .nil)
  | .cons _ _ _ _ r => get0 r
/-- A node over shorter kids, by the rules. -/
def shN (k : Int) (nm : List UInt8) (n : Int) (ks : Fo) : Tm :=
  if k = 3 ∧ (get0 ks).1 = 3 then get0 (get0 ks).2.2.2
  else if k = 4 ∧ (get0 ks).1 = 1 then get1 ks
  else if k = 4 ∧ ((get1 ks).1 = 1 ∨ (get0 ks).same (get1 ks) = true) then get0 ks
  else if k = 5 ∧ ((get0 ks).1 = 1 ∨ (get1 ks).1 = 1) then yesT
  else if k = 5 ∧ (get0 ks).same (get1 ks) = true then get0 ks
  else if (k = 7 ∨ k = 8) ∧ ((get0 ks).1 = k ∨ (get0 ks).1 = 1) then get0 ks
  else if k = 9 ∧ (get1 ks).1 = 1 then get1 ks
  else if k = 10 ∧ (get0 ks).1 = 1 then get0 ks
  else (k, nm, n, ks)
def Fo.shorts : Fo → Fo
  | .nil => .nil
  | .cons k nm n ks r => .cons (shN k nm n (shorts ks)).1 (shN k nm n (shorts ks)).2.1 (shN k nm n (shorts ks)).2.2.1 (shN k nm n (shorts ks)).2.2.2 (shorts r)
def Tm.short (t : Tm) : Tm := shN t.1 t.2.1 t.2.2.1 t.2.2.2.shorts
theorem once_once (a : Nat → Bool) : ∀ i, onceS (onceS a) i = onceS a i
  | 0 => rfl
  | i + 1 => by rw [onceS, once_once a i, onceS]; cases onceS a i <;> cases a (i + 1) <;> rfl
theorem alw_alw (a : Nat → Bool) : ∀ i, alwS (alwS a) i = alwS a i
  | 0 => rfl
  | i + 1 => by rw [alwS, alw_alw a i, alwS]; cases alwS a i <;> cases a (i + 1) <;> rfl
theorem once_yes {a : Nat → Bool} (h : ∀ i, a i = true) : ∀ i, onceS a i = true
  | 0 => h 0
  | i + 1 => by rw [onceS, h (i + 1)]; simp
theorem alw_yes {a : Nat → Bool} (h : ∀ i, a i = true) : ∀ i, alwS a i = true
  | 0 => h 0
  | i + 1 => by rw [alwS, h (i + 1), alw_yes h i]; rfl
theorem sin_yes {a b : Nat → Bool} (h : ∀ i, b i = true) : ∀ i, sinS a b i = true
  | 0 => h 0
  | i + 1 => by rw [sinS, h (i + 1)]; rfl
theorem wit_yes {a : Nat → Bool} {log : List Ev} {n : Int} (h : ∀ i, a i = true) (hn : 0 ≤ n) (hd : ∀ i, 0 ≤ dayAt log i) (i : Nat) : witS a log n i = true := by
  unfold witS
  rw [lastD_yes (h i)]
  have := hd i
  simp only [Bool.and_eq_true, decide_eq_true_eq]
  omega
/-- What a node of the kind true says. -/
theorem node_one (log : List Ev) (nm : List UInt8) (n : Int) (l : List (Nat → Bool)) (i : Nat) : nodeS log 1 nm n l i = true := rfl
/-- The shorter node s stands for a node. -/
structure Sh (k : Int) (nm : List UInt8) (n : Int) (ks : Fo) (s : Tm) : Prop where
  shp : s.fo.shp = true
  cnt : s.fo.cnt ≤ ks.cnt + 1
  names : ∀ x ∈ s.fo.names, x ∈ (Fo.cons k nm n ks .nil).names
  says : ∀ log, (∀ i, 0 ≤ dayAt log i) → ∀ i, s.says log i = nodeS log k nm n (saysF log ks) i
theorem Sh.own {k : Int} {nm : List UInt8} {n : Int} {ks : Fo} (h : okN k nm n ks.len = true) (h2 : ks.shp = true) : Sh k nm n ks (k, nm, n, ks) :=
  ⟨by simp [Tm.fo, Fo.shp, h, h2], by simp [Tm.fo, Fo.cnt], fun _ hx => hx, fun _ _ _ => rfl⟩
theorem sh_ok {k : Int} {nm : List UInt8} {n : Int} {ks : Fo} (h : okN k nm n ks.len = true) (h2 : ks.shp = true) : Sh k nm n ks (shN k nm n ks) := by
  rcases kids_is h with ⟨e, hc, _, _⟩ | ⟨e, hc, _, _⟩ | ⟨e, hc, _, _⟩ | ⟨e, hc, _, hn, _⟩ | ⟨e, hc, _, _⟩
  · subst e; exact Sh.own h h2
  · subst e; exact Sh.own h h2
  · obtain ⟨k1, nm1, n1, ks1, rfl⟩ := Fo.len_one hc
    simp only [Fo.shp, Bool.and_eq_true] at h2
    have hk : (Tm.fo (k1, nm1, n1, ks1)).shp = true := by simp [Tm.fo, Fo.shp, h2.1.1, h2.1.2]
    rcases e with e | e | e | e <;> subst e
    · by_cases h3 : k1 = 3
      · have hs : shN 3 nm n (.cons k1 nm1 n1 ks1 .nil) = get0 ks1 := if_pos ⟨rfl, h3⟩
        rw [hs]
        subst h3
        rcases kids_is h2.1.1 with ⟨e, _⟩ | ⟨e, _⟩ | ⟨_, hc1, _⟩ | ⟨e, _⟩ | ⟨e, _⟩
        · omega
        · omega
        · obtain ⟨k0, nm0, n0, ks0, rfl⟩ := Fo.len_one hc1
          have h4 := h2.1.2
          refine ⟨h4, by simp only [get0, Tm.fo, Fo.cnt]; omega, fun x hx => by simpa [Fo.names, get0, Tm.fo] using hx, fun log _ i => ?_⟩
          show nodeS log k0 nm0 n0 (saysF log ks0) i = !(!(nodeS log k0 nm0 n0 (saysF log ks0) i))
          rw [Bool.not_not]
        · omega
        · omega
      · have hs : shN 3 nm n (.cons k1 nm1 n1 ks1 .nil) = (3, nm, n, .cons k1 nm1 n1 ks1 .nil) := by
          unfold shN
          rw [if_neg (fun q => h3 q.2)]; rfl
        rw [hs]; exact Sh.own h (by simp [Fo.shp, h2])
    · have hs : shN 6 nm n (.cons k1 nm1 n1 ks1 .nil) = (6, nm, n, .cons k1 nm1 n1 ks1 .nil) := rfl
      rw [hs]; exact Sh.own h (by simp [Fo.shp, h2])
    · by_cases h3 : k1 = 7 ∨ k1 = 1
      · have hs : shN 7 nm n (.cons k1 nm1 n1 ks1 .nil) = (k1, nm1, n1, ks1) := by
          unfold shN
          rw [if_neg (by omega), if_neg (by omega), if_neg (by omega), if_neg (by omega), if_neg (by omega), if_pos ⟨.inl rfl, h3⟩]; rfl
        rw [hs]
        refine ⟨hk, by simp only [Tm.fo, Fo.cnt]; omega, fun x hx => by simpa [Fo.names, Tm.fo] using hx, fun log _ i => ?_⟩
        show nodeS log k1 nm1 n1 (saysF log ks1) i = onceS (nodeS log k1 nm1 n1 (saysF log ks1)) i
        rcases h3 with h3 | h3 <;> subst h3
        · exact (once_once _ i).symm
        · exact (once_yes (fun _ => rfl) i).symm
      · have hs : shN 7 nm n (.cons k1 nm1 n1 ks1 .nil) = (7, nm, n, .cons k1 nm1 n1 ks1 .nil) := by
          unfold shN
          rw [if_neg (by omega), if_neg (by omega), if_neg (by omega), if_neg (by omega), if_neg (by omega), if_neg (fun q => h3 q.2)]; rfl
        rw [hs]; exact Sh.own h (by simp [Fo.shp, h2])
    · by_cases h3 : k1 = 8 ∨ k1 = 1
      · have hs : shN 8 nm n (.cons k1 nm1 n1 ks1 .nil) = (k1, nm1, n1, ks1) := by
          unfold shN
          rw [if_neg (by omega), if_neg (by omega), if_neg (by omega), if_neg (by omega), if_neg (by omega), if_pos ⟨.inr rfl, h3⟩]; rfl
        rw [hs]
        refine ⟨hk, by simp only [Tm.fo, Fo.cnt]; omega, fun x hx => by simpa [Fo.names, Tm.fo] using hx, fun log _ i => ?_⟩
        show nodeS log k1 nm1 n1 (saysF log ks1) i = alwS (nodeS log k1 nm1 n1 (saysF log ks1)) i
        rcases h3 with h3 | h3 <;> subst h3
        · exact (alw_alw _ i).symm
        · exact (alw_yes (fun _ => rfl) i).symm
      · have hs : shN 8 nm n (.cons k1 nm1 n1 ks1 .nil) = (8, nm, n, .cons k1 nm1 n1 ks1 .nil) := by
          unfold shN
          rw [if_neg (by omega), if_neg (by omega), if_neg (by omega), if_neg (by omega), if_neg (by omega), if_neg (fun q => h3 q.2)]; rfl
        rw [hs]; exact Sh.own h (by simp [Fo.shp, h2])
  · obtain ⟨k1, nm1, n1, ks1, rfl⟩ := Fo.len_one hc
    simp only [Fo.shp, Bool.and_eq_true] at h2
    have hk : (Tm.fo (k1, nm1, n1, ks1)).shp = true := by simp [Tm.fo, Fo.shp, h2.1.1, h2.1.2]
    subst e
    by_cases h3 : k1 = 1
    · have hs : shN 10 nm n (.cons k1 nm1 n1 ks1 .nil) = (k1, nm1, n1, ks1) := by
        unfold shN
        rw [if_neg (by omega), if_neg (by omega), if_neg (by omega), if_neg (by omega), if_neg (by omega), if_neg (by omega), if_neg (by omega), if_pos ⟨rfl, h3⟩]; rfl
      rw [hs]
      subst h3
      refine ⟨hk, by simp only [Tm.fo, Fo.cnt]; omega, fun x hx => by simpa [Fo.names, Tm.fo] using hx, fun log hd i => ?_⟩
      exact (wit_yes (log := log) (n := n) (a := nodeS log 1 nm1 n1 (saysF log ks1)) (fun _ => rfl) hn hd i).symm
    · have hs : shN 10 nm n (.cons k1 nm1 n1 ks1 .nil) = (10, nm, n, .cons k1 nm1 n1 ks1 .nil) := by
        unfold shN
        rw [if_neg (by omega), if_neg (by omega), if_neg (by omega), if_neg (by omega), if_neg (by omega), if_neg (by omega), if_neg (by omega), if_neg (fun q => h3 q.2)]
      rw [hs]; exact Sh.own h (by simp [Fo.shp, h2])
  · obtain ⟨k1, nm1, n1, ks1, k2, nm2, n2, ks2, rfl⟩ := Fo.len_two hc
    simp only [Fo.shp, Bool.and_eq_true] at h2
    have hk1 : (Tm.fo (k1, nm1, n1, ks1)).shp = true := by simp [Tm.fo, Fo.shp, h2.1.1, h2.1.2]
    have hk2 : (Tm.fo (k2, nm2, n2, ks2)).shp = true := by simp [Tm.fo, Fo.shp, h2.2.1.1, h2.2.1.2]
    have hself : Sh k nm n (.cons k1 nm1 n1 ks1 (.cons k2 nm2 n2 ks2 .nil)) (k, nm, n, .cons k1 nm1 n1 ks1 (.cons k2 nm2 n2 ks2 .nil)) := Sh.own h (by simp [Fo.shp, h2])
    have n1' : ∀ x ∈ (Tm.fo (k1, nm1, n1, ks1)).names, x ∈ (Fo.cons k nm n (.cons k1 nm1 n1 ks1 (.cons k2 nm2 n2 ks2 .nil)) .nil).names := fun x hx => by
      have : x ∈ (if k1 = 2 then [nm1] else []) ++ ks1.names := by simpa [Fo.names, Tm.fo] using hx
      simp only [Fo.names, List.append_nil]
      exact List.mem_append_right _ (List.mem_append_left _ this)
    have n2' : ∀ x ∈ (Tm.fo (k2, nm2, n2, ks2)).names, x ∈ (Fo.cons k nm n (.cons k1 nm1 n1 ks1 (.cons k2 nm2 n2 ks2 .nil)) .nil).names := fun x hx => by
      have : x ∈ (if k2 = 2 then [nm2] else []) ++ ks2.names := by simpa [Fo.names, Tm.fo] using hx
      simp only [Fo.names, List.append_nil]
      exact List.mem_append_right _ (List.mem_append_right _ this)
    have c1 : (Tm.fo (k1, nm1, n1, ks1)).cnt ≤ (Fo.cons k1 nm1 n1 ks1 (.cons k2 nm2 n2 ks2 .nil)).cnt + 1 := by simp only [Tm.fo, Fo.cnt]; omega
    have c2 : (Tm.fo (k2, nm2, n2, ks2)).cnt ≤ (Fo.cons k1 nm1 n1 ks1 (.cons k2 nm2 n2 ks2 .nil)).cnt + 1 := by simp only [Tm.fo, Fo.cnt]; omega
    have hsame : Tm.same (k1, nm1, n1, ks1) (k2, nm2, n2, ks2) = true → (k1, nm1, n1, ks1) = (k2, nm2, n2, ks2) := (Tm.same_iff _ _).1
    rcases e with e | e | e <;> subst e
    · by_cases h3 : k1 = 1
      · have hs : shN 4 nm n (.cons k1 nm1 n1 ks1 (.cons k2 nm2 n2 ks2 .nil)) = (k2, nm2, n2, ks2) := by
          unfold shN
          rw [if_neg (by omega), if_pos ⟨rfl, h3⟩]; rfl
        rw [hs]; subst h3
        refine ⟨hk2, c2, n2', fun log _ i => ?_⟩
        show nodeS log k2 nm2 n2 (saysF log ks2) i = (true && nodeS log k2 nm2 n2 (saysF log ks2) i)
        rw [Bool.true_and]
      by_cases h4 : k2 = 1 ∨ Tm.same (k1, nm1, n1, ks1) (k2, nm2, n2, ks2) = true
      · have hs : shN 4 nm n (.cons k1 nm1 n1 ks1 (.cons k2 nm2 n2 ks2 .nil)) = (k1, nm1, n1, ks1) := by
          unfold shN
          rw [if_neg (by omega), if_neg (fun q => h3 q.2), if_pos ⟨rfl, h4⟩]; rfl
        rw [hs]
        refine ⟨hk1, c1, n1', fun log _ i => ?_⟩
        show nodeS log k1 nm1 n1 (saysF log ks1) i = (nodeS log k1 nm1 n1 (saysF log ks1) i && nodeS log k2 nm2 n2 (saysF log ks2) i)
        rcases h4 with h4 | h4
        · subst h4; rw [node_one, Bool.and_true]
        · have := hsame h4
          injection this with e1 e; injection e with e2 e; injection e with e3 e4
          subst e1 e2 e3 e4
          rw [Bool.and_self]
      · have hs : shN 4 nm n (.cons k1 nm1 n1 ks1 (.cons k2 nm2 n2 ks2 .nil)) = (4, nm, n, .cons k1 nm1 n1 ks1 (.cons k2 nm2 n2 ks2 .nil)) := by
          unfold shN
          rw [if_neg (by omega), if_neg (fun q => h3 q.2), if_neg (fun q => h4 q.2)]; rfl
        rw [hs]; exact hself
    · by_cases h3 : k1 = 1 ∨ k2 = 1
      · have hs : shN 5 nm n (.cons k1 nm1 n1 ks1 (.cons k2 nm2 n2 ks2 .nil)) = yesT := by
          unfold shN
          rw [if_neg (by omega), if_neg (by omega), if_neg (by omega), if_pos ⟨rfl, h3⟩]
        rw [hs]
        refine ⟨by decide, by show 0 + 1 + 0 ≤ _; omega, fun x hx => by simp [yesT, Tm.fo, Fo.names] at hx, fun log _ i => ?_⟩
        show true = (nodeS log k1 nm1 n1 (saysF log ks1) i || nodeS log k2 nm2 n2 (saysF log ks2) i)
        rcases h3 with h3 | h3 <;> subst h3
        · rw [node_one, Bool.true_or]
        · rw [node_one log nm2, Bool.or_true]
      by_cases h4 : Tm.same (k1, nm1, n1, ks1) (k2, nm2, n2, ks2) = true
      · have hs : shN 5 nm n (.cons k1 nm1 n1 ks1 (.cons k2 nm2 n2 ks2 .nil)) = (k1, nm1, n1, ks1) := by
          unfold shN
          rw [if_neg (by omega), if_neg (by omega), if_neg (by omega), if_neg (fun q => h3 q.2), if_pos ⟨rfl, h4⟩]; rfl
        rw [hs]
        refine ⟨hk1, c1, n1', fun log _ i => ?_⟩
        show nodeS log k1 nm1 n1 (saysF log ks1) i = (nodeS log k1 nm1 n1 (saysF log ks1) i || nodeS log k2 nm2 n2 (saysF log ks2) i)
        have := hsame h4
        injection this with e1 e; injection e with e2 e; injection e with e3 e4
        subst e1 e2 e3 e4
        rw [Bool.or_self]
      · have hs : shN 5 nm n (.cons k1 nm1 n1 ks1 (.cons k2 nm2 n2 ks2 .nil)) = (5, nm, n, .cons k1 nm1 n1 ks1 (.cons k2 nm2 n2 ks2 .nil)) := by
          unfold shN
          rw [if_neg (by omega), if_neg (by omega), if_neg (by omega), if_neg (fun q => h3 q.2), if_neg (fun q => h4 q.2)]; rfl
        rw [hs]; exact hself
    · by_cases h3 : k2 = 1
      · have hs : shN 9 nm n (.cons k1 nm1 n1 ks1 (.cons k2 nm2 n2 ks2 .nil)) = (k2, nm2, n2, ks2) := by
          unfold shN
          rw [if_neg (by omega), if_neg (by omega), if_neg (by omega), if_neg (by omega), if_neg (by omega), if_neg (by omega), if_pos ⟨rfl, h3⟩]; rfl
        rw [hs]; subst h3
        refine ⟨hk2, c2, n2', fun log _ i => ?_⟩
        exact (sin_yes (a := nodeS log k1 nm1 n1 (saysF log ks1)) (b := nodeS log 1 nm2 n2 (saysF log ks2)) (fun _ => rfl) i).symm
      · have hs : shN 9 nm n (.cons k1 nm1 n1 ks1 (.cons k2 nm2 n2 ks2 .nil)) = (9, nm, n, .cons k1 nm1 n1 ks1 (.cons k2 nm2 n2 ks2 .nil)) := by
          unfold shN
          rw [if_neg (by omega), if_neg (by omega), if_neg (by omega), if_neg (by omega), if_neg (by omega), if_neg (by omega), if_neg (fun q => h3 q.2)]; rfl
        rw [hs]; exact hself
theorem saysF_len (log : List Ev) : ∀ (f : Fo), (saysF log f).length = f.len
  | .nil => rfl
  | .cons _ _ _ _ r => by simp [saysF, Fo.len, saysF_len log r]
theorem cons_parts (k : Int) (nm : List UInt8) (n : Int) (ks r : Fo) : (Fo.cons k nm n ks r).shp = (Fo.shp (.cons k nm n ks .nil) && r.shp) ∧ (Fo.cons k nm n ks r).cnt = Fo.cnt (.cons k nm n ks .nil) + r.cnt ∧ (Fo.cons k nm n ks r).names = Fo.names (.cons k nm n ks .nil) ++ r.names := by
  simp [Fo.shp, Fo.cnt, Fo.names]
/-- The shorter terms: as many, each valid, not longer, with no other marks, and they say the same. -/
theorem shorts_ok : ∀ (f : Fo), f.shp = true → f.shorts.shp = true ∧ f.shorts.len = f.len ∧ f.shorts.cnt ≤ f.cnt ∧ (∀ x ∈ f.shorts.names, x ∈ f.names) ∧ ∀ log, (∀ i, 0 ≤ dayAt log i) → ∀ i q, (saysF log f.shorts).getD q noS i = (saysF log f).getD q noS i
  | .nil, _ => ⟨rfl, rfl, Nat.le_refl _, fun _ h => h, fun _ _ _ _ => rfl⟩
  | .cons k nm n ks r, h => by
    simp only [Fo.shp, Bool.and_eq_true] at h
    obtain ⟨a1, a2, a3, a4, a5⟩ := shorts_ok ks h.1.2
    obtain ⟨b1, b2, b3, b4, b5⟩ := shorts_ok r h.2
    have hs := sh_ok (k := k) (nm := nm) (n := n) (ks := ks.shorts) (by rw [a2]; exact h.1.1) a1
    obtain ⟨c1, c2, c3⟩ := cons_parts (shN k nm n ks.shorts).1 (shN k nm n ks.shorts).2.1 (shN k nm n ks.shorts).2.2.1 (shN k nm n ks.shorts).2.2.2 r.shorts
    refine ⟨?_, by simp [Fo.shorts, Fo.len, b2], ?_, ?_, ?_⟩
    · rw [Fo.shorts, c1, b1, Bool.and_true]; exact hs.shp
    · rw [Fo.shorts, c2]
      have : Fo.cnt (.cons (shN k nm n ks.shorts).1 (shN k nm n ks.shorts).2.1 (shN k nm n ks.shorts).2.2.1 (shN k nm n ks.shorts).2.2.2 .nil) ≤ ks.shorts.cnt + 1 := hs.cnt
      simp only [Fo.cnt] at this ⊢
      omega
    · intro x hx
      rw [Fo.shorts, c3, List.mem_append] at hx
      rcases hx with hx | hx
      · have := hs.names x hx
        simp only [Fo.names, List.mem_append, List.append_nil] at this ⊢
        rcases this with q | q
        · exact .inl (.inl q)
        · exact .inl (.inr (a4 x q))
      · simp only [Fo.names, List.mem_append]
        exact .inr (b4 x hx)
    · intro log hd i q
      cases q with
      | zero =>
        have e1 := hs.says log hd i
        have e2 := node_agr (l := log) (m := log) (k := k) (nm := nm) (n := n) (u := saysF log ks.shorts) (v := saysF log ks) (i := i) (fun _ _ => rfl) (fun _ _ _ => rfl) ⟨by rw [saysF_len, saysF_len, a2], fun q j _ => a5 log hd j q⟩ i (Nat.le_refl _)
        exact e1.trans e2
      | succ q => exact b5 log hd i q
theorem short_ok (t : Tm) (h : t.ok = true) : t.short.ok = true ∧ t.short.fo.cnt ≤ t.fo.cnt ∧ (∀ x ∈ t.short.fo.names, x ∈ t.fo.names) ∧ ∀ log, (∀ i, 0 ≤ dayAt log i) → ∀ i, t.short.says log i = t.says log i := by
  simp only [Tm.ok, Bool.and_eq_true, decide_eq_true_eq] at h
  obtain ⟨h1, h2, h3, h4, h5⟩ := shorts_ok t.fo h.1
  refine ⟨?_, h3, h4, fun log hd i => h5 log hd i 0⟩
  simp only [Tm.ok, Bool.and_eq_true, decide_eq_true_eq]
  exact ⟨h1, Nat.le_trans h3 h.2⟩
end Go.Proofs.YtobpacebpiabcaaGreatDoor

namespace Go.Proofs.YtobpacebpiabcaaGreatDoor
open Go.Lib

def oneT (k : Int) (n : Int) (a : Tm) : Tm := (k, [], n, a.fo)
def twoT (k : Int) (a b : Tm) : Tm := (k, [], 0, .cons a.1 a.2.1 a.2.2.1 a.2.2.2 b.fo)
/-! The laws. -/
end Go.Proofs.YtobpacebpiabcaaGreatDoor

namespace Go.Proofs.YtobpacebpiabcaaGreatDoor
open Go.Lib

/-- Letters and digits. -/
def ldB (c : UInt8) : Bool := letB c || digB c
def tw (s : List UInt8) : List UInt8 := s.takeWhile ldB
def begB (s w : List UInt8) : Bool := w.isPrefixOf s
/-- The digits that are read behind 'within ', at most so many of them: their number and how many there are. -/
def digs : Nat → Int → List UInt8 → Int × List UInt8
  | 0, n, s => (n, s)
  | _ + 1, n, [] => (n, [])
  | q + 1, n, c :: s => if digB c = true then digs q (10 * n + ((c.toNat : Int) - 48)) s else (n, c :: s)
def two2 (rest : List UInt8) : Option (Int × List UInt8) :=
  if begB rest (sp ++ wAnd ++ sp) = true then some (4, rest.drop 5) else if begB rest (sp ++ wOr ++ sp) = true then some (5, rest.drop 4) else if begB rest (sp ++ wSince ++ sp) = true then some (9, rest.drop 7) else none
def one2 (s : List UInt8) : Option (Int × List UInt8) :=
  if begB s (wNot ++ sp) = true then some (3, s.drop 4) else if begB s (wPrev ++ sp) = true then some (6, s.drop 5) else if begB s (wOnce ++ sp) = true then some (7, s.drop 5) else if begB s (wAlways ++ sp) = true then some (8, s.drop 7) else none
def rt : Nat → List UInt8 → Option (Tm × List UInt8)
  | 0, _ => none
  | m + 1, s =>
    if begB s [40] = true then
      match rt m (s.drop 1) with
      | none => none
      | some (a, rest) =>
        match two2 rest with
        | none => none
        | some (k, r) =>
          match rt m r with
          | none => none
          | some (b, left) => if begB left [41] = true then some (twoT k a b, left.drop 1) else none
    else
      match one2 s with
      | some (k, r) =>
        match rt m r with
        | none => none
        | some (a, rest) => some (oneT k 0 a, rest)
      | none =>
        if begB s (wWithin ++ sp) = true then
          if begB (digs 8 0 (s.drop 7)).2 sp = true then
            match rt m ((digs 8 0 (s.drop 7)).2.drop 1) with
            | none => none
            | some (a, rest) => some (oneT 10 (digs 8 0 (s.drop 7)).1 a, rest)
          else none
        else if tw s = wTrue then some (yesT, s.drop 4)
        else if isName (tw s) = true then some ((2, tw s, 0, .nil), s.drop (tw s).length)
        else none
/-- What may stand behind a term: nothing, a space or a bracket. -/
def Ends2 (l : List UInt8) : Prop := l = [] ∨ ∃ c m, l = c :: m ∧ ldB c = false
theorem tw_word {w l : List UInt8} (h : w.all ldB = true) (hl : Ends2 l) : tw (w ++ l) = w := by
  unfold tw
  induction w with
  | nil =>
    rcases hl with e | ⟨c, m, e, hc⟩
    · subst e; rfl
    · subst e; simp [hc]
  | cons a w ih =>
    simp only [List.all_cons, Bool.and_eq_true] at h
    rw [List.cons_append, List.takeWhile_cons, if_pos h.1, ih h.2]
theorem beg_eq {s w : List UInt8} (h : begB s w = true) : ∃ r, s = w ++ r := by
  obtain ⟨r, hr⟩ := List.isPrefixOf_iff_prefix.1 h
  exact ⟨r, hr.symm⟩
theorem beg_app (w r : List UInt8) : begB (w ++ r) w = true := List.isPrefixOf_iff_prefix.2 ⟨r, rfl⟩
theorem ends_sp (r : List UInt8) : Ends2 (sp ++ r) := .inr ⟨32, r, rfl, by decide⟩
/-- A text begins with a word and a space if its first letters are that word. -/
theorem beg_tw {s w : List UInt8} (hw : w.all ldB = true) (h : begB s (w ++ sp) = true) : tw s = w := by
  obtain ⟨r, e⟩ := beg_eq h
  rw [e, List.append_assoc]
  exact tw_word hw (ends_sp r)
theorem beg_not {s w : List UInt8} (hw : w.all ldB = true) (h : tw s ≠ w) : begB s (w ++ sp) = false := by
  cases hb : begB s (w ++ sp) with
  | false => rfl
  | true => exact absurd (beg_tw hw hb) h
theorem beg_br {s : List UInt8} (h : tw s ≠ []) : begB s [40] = false := by
  cases hb : begB s [40] with
  | false => rfl
  | true =>
    obtain ⟨r, e⟩ := beg_eq hb
    subst e
    exact absurd rfl h
theorem one2_none {s : List UInt8} (h1 : tw s ≠ wNot) (h2 : tw s ≠ wPrev) (h3 : tw s ≠ wOnce) (h4 : tw s ≠ wAlways) : one2 s = none := by
  unfold one2
  rw [beg_not (by decide) h1, beg_not (by decide) h2, beg_not (by decide) h3, beg_not (by decide) h4]
  rfl
theorem digs_all : ∀ (l : List UInt8) (q : Nat) (n : Nat) (r : List UInt8), (∀ c ∈ l, isDig c) → l.length ≤ q → (r = [] ∨ ∃ c m, r = c :: m ∧ digB c = false) → digs q (n : Int) (l ++ r) = (((valD n l : Nat) : Int), r)
  | [], q, n, r, _, _, hr => by
    rcases hr with e | ⟨c, m, e, hc⟩
    · subst e; cases q <;> rfl
    · subst e
      cases q with
      | zero => rfl
      | succ q => show digs (q + 1) n (c :: m) = _; rw [digs, if_neg (by rw [hc]; decide)]; rfl
  | c :: l, q, n, r, h, hq, hr => by
    have hc := h c (by simp)
    obtain ⟨q, rfl⟩ : ∃ p, q = p + 1 := ⟨q - 1, by simp at hq; omega⟩
    have hd : digB c = true := by unfold isDig at hc; simp [digB, hc.1, hc.2]
    rw [List.cons_append, digs, if_pos hd]
    have e : 10 * (n : Int) + ((c.toNat : Int) - 48) = ((n * 10 + (c.toNat - 48) : Nat) : Int) := by unfold isDig at hc; omega
    rw [e, digs_all l q _ r (fun x hx => h x (by simp [hx])) (by simpa using hq) hr]
    rfl
theorem rt_br {m : Nat} {s : List UInt8} {a b : Tm} {rest r left : List UInt8} {k : Int} (h : begB s [40] = true) (h1 : rt m (s.drop 1) = some (a, rest)) (h2 : two2 rest = some (k, r)) (h3 : rt m r = some (b, left)) (h4 : begB left [41] = true) : rt (m + 1) s = some (twoT k a b, left.drop 1) := by
  rw [rt, if_pos h, h1]
  simp only [h2, h3, h4, if_true]
theorem rt_one {m : Nat} {s r rest : List UInt8} {a : Tm} {k : Int} (h : begB s [40] = false) (h1 : one2 s = some (k, r)) (h2 : rt m r = some (a, rest)) : rt (m + 1) s = some (oneT k 0 a, rest) := by
  rw [rt, if_neg (by rw [h]; decide), h1]
  simp only [h2]
theorem rt_within {m : Nat} {s rest : List UInt8} {a : Tm} (h : begB s [40] = false) (h1 : one2 s = none) (h2 : begB s (wWithin ++ sp) = true) (h3 : begB (digs 8 0 (s.drop 7)).2 sp = true) (h4 : rt m ((digs 8 0 (s.drop 7)).2.drop 1) = some (a, rest)) :
    rt (m + 1) s = some (oneT 10 (digs 8 0 (s.drop 7)).1 a, rest) := by
  rw [rt, if_neg (by rw [h]; decide), h1]
  simp only [h2, h3, h4, if_true]
theorem rt_word {m : Nat} {s : List UInt8} (h : begB s [40] = false) (h1 : one2 s = none) (h2 : begB s (wWithin ++ sp) = false) :
    rt (m + 1) s = if tw s = wTrue then some (yesT, s.drop 4) else if isName (tw s) = true then some ((2, tw s, 0, .nil), s.drop (tw s).length) else none := by
  rw [rt, if_neg (by rw [h]; decide), h1]
  simp only [h2, Bool.false_eq_true, if_false]
/-- Each term of the list is read from its text. -/
def AllRt : Fo → Prop
  | .nil => True
  | .cons k nm n ks r => (∀ (m : Nat) rest, ks.cnt + 1 ≤ m → Ends2 rest → rt m (nodeT k nm n ks.txts ++ rest) = some ((k, nm, n, ks), rest)) ∧ AllRt r
theorem two2_at {w r : List UInt8} {k : Int} (h : (w, k) = (wAnd, 4) ∨ (w, k) = (wOr, 5) ∨ (w, k) = (wSince, 9)) : two2 (sp ++ w ++ sp ++ r) = some (k, r) := by
  rcases h with e | e | e <;> (injection e with e1 e2; subst e1 e2; rfl)
theorem one2_at {w r : List UInt8} {k : Int} (h : (w, k) = (wNot, 3) ∨ (w, k) = (wPrev, 6) ∨ (w, k) = (wOnce, 7) ∨ (w, k) = (wAlways, 8)) : one2 (w ++ sp ++ r) = some (k, r) := by
  rcases h with e | e | e | e <;> (injection e with e1 e2; subst e1 e2; rfl)
theorem all_rt : ∀ (f : Fo), f.shp = true → AllRt f
  | .nil, _ => trivial
  | .cons k nm n ks r, h => by
    simp only [Fo.shp, Bool.and_eq_true] at h
    have ik := all_rt ks h.1.2
    refine ⟨fun m rest hm hr => ?_, all_rt r h.2⟩
    obtain ⟨m, rfl⟩ : ∃ q, m = q + 1 := ⟨m - 1, by omega⟩
    rcases kids_is h.1.1 with ⟨e, hc, e1, e2⟩ | ⟨e, hc, hn, e2⟩ | ⟨e, hc, e1, e2⟩ | ⟨e, hc, e1, hn, hn2⟩ | ⟨e, hc, e1, e2⟩
    · rw [Fo.len_zero hc]; subst e e1 e2
      have ht : tw (wTrue ++ rest) = wTrue := tw_word (by decide) hr
      show rt (m + 1) (wTrue ++ rest) = _
      rw [rt_word (beg_br (by rw [ht]; decide)) (one2_none (by rw [ht]; decide) (by rw [ht]; decide) (by rw [ht]; decide) (by rw [ht]; decide)) (beg_not (by decide) (by rw [ht]; decide)), if_pos ht]
      rfl
    · rw [Fo.len_zero hc]; subst e e2
      have hall : nm.all ldB = true := by
        simp only [isName, Bool.and_eq_true] at hn
        exact hn.1.2
      have ht : tw (nm ++ rest) = nm := tw_word hall hr
      have hw : ∀ w ∈ words, nm ≠ w := fun w hw e => by
        subst e
        simp only [isName, Bool.and_eq_true, Bool.not_eq_true'] at hn
        have := hn.2
        rw [List.contains_eq_mem, decide_eq_false_iff_not] at this
        exact this hw
      show rt (m + 1) (nm ++ rest) = _
      rw [rt_word (beg_br (by rw [ht]; exact (name_wb hn).1)) (one2_none (by rw [ht]; exact hw _ (by simp [words])) (by rw [ht]; exact hw _ (by simp [words])) (by rw [ht]; exact hw _ (by simp [words])) (by rw [ht]; exact hw _ (by simp [words]))) (beg_not (by decide) (by rw [ht]; exact hw _ (by simp [words]))), ht, if_neg (hw _ (by simp [words])), if_pos hn, List.drop_left]
    · obtain ⟨a, b, c, d, rfl⟩ := Fo.len_one hc
      simp only [Fo.cnt] at hm
      have hr' := ik.1 m rest (by omega) hr
      have main : ∀ (w : List UInt8) (kk : Int), ((w, kk) = (wNot, 3) ∨ (w, kk) = (wPrev, 6) ∨ (w, kk) = (wOnce, 7) ∨ (w, kk) = (wAlways, 8)) → rt (m + 1) (w ++ sp ++ nodeT a b c d.txts ++ rest) = some ((kk, [], 0, .cons a b c d .nil), rest) := fun w kk hk => by
        rw [List.append_assoc (w ++ sp)]
        refine rt_one (a := (a, b, c, d)) ?_ (one2_at hk) hr'
        rcases hk with e | e | e | e <;> (injection e with e1 e2; subst e1 e2; rfl)
      rcases e with e | e | e | e <;> subst e e1 e2
      · exact main wNot 3 (.inl rfl)
      · exact main wPrev 6 (.inr (.inl rfl))
      · exact main wOnce 7 (.inr (.inr (.inl rfl)))
      · exact main wAlways 8 (.inr (.inr (.inr rfl)))
    · obtain ⟨a, b, c, d, rfl⟩ := Fo.len_one hc
      simp only [Fo.cnt] at hm
      have hr' := ik.1 m rest (by omega) hr
      subst e e1
      have e0 : nodeT 10 [] n (Fo.cons a b c d .nil).txts ++ rest = wWithin ++ (sp ++ (itoa n ++ (sp ++ (nodeT a b c d.txts ++ rest)))) := by
        show wWithin ++ sp ++ itoa n ++ sp ++ nodeT a b c d.txts ++ rest = _
        simp
      rw [e0]
      have ht : tw (wWithin ++ (sp ++ (itoa n ++ (sp ++ (nodeT a b c d.txts ++ rest))))) = wWithin := tw_word (by decide) (ends_sp _)
      have hdig : digs 8 0 (itoa n ++ (sp ++ (nodeT a b c d.txts ++ rest))) = (n, sp ++ (nodeT a b c d.txts ++ rest)) := by
        have hi : itoa n = decDigits n.toNat := by unfold itoa; rw [if_neg (by omega)]
        rw [hi]
        have := digs_all (decDigits n.toNat) 8 0 (sp ++ (nodeT a b c d.txts ++ rest)) (dec_dig _) (dec_len 7 n.toNat (by omega)) (.inr ⟨32, _, rfl, by decide⟩)
        rw [dec_val] at this
        refine this.trans ?_
        rw [show ((n.toNat : Nat) : Int) = n by omega]
      have hdrop : (wWithin ++ (sp ++ (itoa n ++ (sp ++ (nodeT a b c d.txts ++ rest))))).drop 7 = itoa n ++ (sp ++ (nodeT a b c d.txts ++ rest)) := rfl
      have := rt_within (m := m) (a := (a, b, c, d)) (rest := rest) (beg_br (by rw [ht]; decide)) (one2_none (by rw [ht]; decide) (by rw [ht]; decide) (by rw [ht]; decide) (by rw [ht]; decide)) (by rw [← List.append_assoc]; exact beg_app _ _) (by rw [hdrop, hdig]; exact beg_app _ _) (by rw [hdrop, hdig]; exact hr')
      rw [this, hdrop, hdig]; rfl
    · obtain ⟨a, b, c, d, a2, b2, c2, d2, rfl⟩ := Fo.len_two hc
      simp only [Fo.cnt] at hm
      have main : ∀ (w : List UInt8) (kk : Int), ((w, kk) = (wAnd, 4) ∨ (w, kk) = (wOr, 5) ∨ (w, kk) = (wSince, 9)) → rt (m + 1) ([40] ++ nodeT a b c d.txts ++ sp ++ w ++ sp ++ nodeT a2 b2 c2 d2.txts ++ [41] ++ rest) = some ((kk, [], 0, .cons a b c d (.cons a2 b2 c2 d2 .nil)), rest) := fun w kk hk => by
        have e0 : [40] ++ nodeT a b c d.txts ++ sp ++ w ++ sp ++ nodeT a2 b2 c2 d2.txts ++ [41] ++ rest = [40] ++ (nodeT a b c d.txts ++ (sp ++ w ++ sp ++ (nodeT a2 b2 c2 d2.txts ++ ([41] ++ rest)))) := by simp
        rw [e0]
        have h1 := ik.1 m (sp ++ w ++ sp ++ (nodeT a2 b2 c2 d2.txts ++ ([41] ++ rest))) (by omega) (by rw [List.append_assoc, List.append_assoc]; exact ends_sp _)
        have h3 := ik.2.1 m ([41] ++ rest) (by omega) (.inr ⟨41, rest, rfl, by decide⟩)
        exact rt_br (a := (a, b, c, d)) (b := (a2, b2, c2, d2)) (beg_app _ _) h1 (two2_at hk) h3 (beg_app _ _)
      rcases e with e | e | e <;> subst e e1 e2
      · exact main wAnd 4 (.inl rfl)
      · exact main wOr 5 (.inr (.inl rfl))
      · exact main wSince 9 (.inr (.inr rfl))
/-- The term whose text is s, if there is one. -/
noncomputable def parseT (s : List UInt8) : Option Tm := by
  classical
  exact if h : ∃ t : Tm, t.ok = true ∧ t.tx = s then some h.choose else none
theorem parseT_some {s : List UInt8} {t : Tm} : parseT s = some t ↔ t.ok = true ∧ t.tx = s := by
  unfold parseT
  by_cases h : ∃ t : Tm, t.ok = true ∧ t.tx = s
  · rw [dif_pos h]
    have hc := h.choose_spec
    constructor
    · intro e
      injection e with e
      rw [← e]; exact hc
    · rintro ⟨h1, h2⟩
      rw [text_inj hc.1 h1 (hc.2.trans h2.symm)]
  · rw [dif_neg h]
    exact ⟨fun e => (by cases e), fun e => absurd ⟨t, e⟩ h⟩
theorem parseT_none {s : List UInt8} : parseT s = none ↔ ¬ ∃ t : Tm, t.ok = true ∧ t.tx = s := by
  constructor
  · rintro h ⟨t, ht⟩
    rw [parseT_some.2 ht] at h
    cases h
  · intro h
    cases hp : parseT s with
    | none => rfl
    | some t => exact absurd ⟨t, parseT_some.1 hp⟩ h
end Go.Proofs.YtobpacebpiabcaaGreatDoor

namespace Go.Proofs.YtobpacebpiabcaaGreatDoor
open Go.Lib

/-- All bytes are below 128. -/
def ascii (l : List UInt8) : Bool := l.all (fun c => decide (c.toNat < 128))
theorem ascii_iff {l : List UInt8} : ascii l = true ↔ ∀ c ∈ l, c.toNat < 128 := by simp [ascii]
theorem ascii_append {l m : List UInt8} (h : ascii l = true) (k : ascii m = true) : ascii (l ++ m) = true := by
  rw [ascii_iff] at *
  intro c hc
  rcases List.mem_append.1 hc with hc | hc
  · exact h c hc
  · exact k c hc
/-- The words of a text. -/
def fieldsX (l : List UInt8) : List (List UInt8) := if ascii l then fields l else fieldsD l
/-- What the program's Parse gives. -/
def progP (s : List UInt8) : Option Tm := match rdv 64 (fieldsX (apart s)) with
  | some x => if x.1.ok && decide (x.1.tx = s) then some x.1 else none
  | none => none
theorem rep1_ascii (c : UInt8) (new : List UInt8) (hn : ascii new = true) : ∀ (l : List UInt8), ascii l = true → ascii (rep1 c new l) = true
  | [], _ => rfl
  | b :: l, h => by
    rw [ascii_iff] at h
    have h1 := rep1_ascii c new hn l (ascii_iff.2 fun x hx => h x (by simp [hx]))
    rw [rep1]
    refine ascii_append ?_ h1
    by_cases e : b = c
    · rw [if_pos e]; exact hn
    · rw [if_neg e]; exact ascii_iff.2 fun x hx => h x (by simp at hx; simp [hx])
theorem apart_ascii {l : List UInt8} (h : ascii l = true) : ascii (apart l) = true := rep1_ascii _ _ (by decide) _ (rep1_ascii _ _ (by decide) _ h)
theorem wb_ascii {l : List UInt8} (h : ∀ c ∈ l, wb c) : ascii l = true := ascii_iff.2 fun c hc => (h c hc).2.2.2
theorem getD_ascii {l : List (List UInt8)} (h : ∀ t ∈ l, ascii t = true) (i : Nat) : ascii (l.getD i []) = true := by
  by_cases hi : i < l.length
  · rw [List.getD_eq_getElem?_getD, List.getElem?_eq_getElem hi]; exact h _ (List.getElem_mem hi)
  · rw [List.getD_eq_getElem?_getD, List.getElem?_eq_none (by omega)]; rfl
theorem node_ascii {k : Int} {nm : List UInt8} {n : Int} {c : Nat} {l : List (List UInt8)} (h : okN k nm n c = true) (hl : ∀ t ∈ l, ascii t = true) : ascii (nodeT k nm n l) = true := by
  have h0 := getD_ascii hl 0
  have h1 := getD_ascii hl 1
  unfold okN at h
  simp only [Bool.and_eq_true] at h
  unfold nodeT
  split
  · rename_i e
    have := h.1.2
    rw [if_pos e] at this
    exact wb_ascii (name_wb this).2
  repeat' split
  · exact ascii_append (by decide) h0
  · exact ascii_append (by decide) h0
  · exact ascii_append (by decide) h0
  · exact ascii_append (by decide) h0
  · rename_i e
    have := h.2
    rw [if_pos e] at this
    simp at this
    exact ascii_append (ascii_append (ascii_append (by decide) (wb_ascii (itoa_wb this.1).2)) (by decide)) h0
  · exact ascii_append (ascii_append (ascii_append (ascii_append (ascii_append (ascii_append (by decide) h0) (by decide)) (by decide)) (by decide)) h1) (by decide)
  · exact ascii_append (ascii_append (ascii_append (ascii_append (ascii_append (ascii_append (by decide) h0) (by decide)) (by decide)) (by decide)) h1) (by decide)
  · exact ascii_append (ascii_append (ascii_append (ascii_append (ascii_append (ascii_append (by decide) h0) (by decide)) (by decide)) (by decide)) h1) (by decide)
  · decide
theorem txts_ascii : ∀ (f : Fo), f.shp = true → ∀ t ∈ f.txts, ascii t = true
  | .nil, _, t, h => by simp [Fo.txts] at h
  | .cons k nm n ks r, h, t, ht => by
    simp only [Fo.shp, Bool.and_eq_true] at h
    simp only [Fo.txts, List.mem_cons] at ht
    rcases ht with rfl | ht
    · exact node_ascii h.1.1 (txts_ascii ks h.1.2)
    · exact txts_ascii r h.2 t ht
theorem Tm.ok_shp {t : Tm} (h : t.ok = true) : okN t.1 t.2.1 t.2.2.1 t.2.2.2.len = true ∧ t.2.2.2.shp = true ∧ t.2.2.2.cnt + 1 ≤ 64 := by
  unfold Tm.ok Tm.fo at h
  simp only [Fo.shp, Fo.cnt, Bool.and_eq_true, Bool.and_true, Nat.add_zero] at h
  exact ⟨h.1.1, h.1.2, of_decide_eq_true h.2⟩
theorem tx_ascii {t : Tm} (h : t.ok = true) : ascii t.tx = true := node_ascii (Tm.ok_shp h).1 (txts_ascii _ (Tm.ok_shp h).2.1)
theorem progP_eq (s : List UInt8) : progP s = parseT s := by
  cases hp : parseT s with
  | some t =>
    obtain ⟨h1, h2⟩ := parseT_some.1 hp
    unfold progP
    rw [show fieldsX (apart s) = fields (apart s) by rw [fieldsX, if_pos (by rw [← h2]; exact apart_ascii (tx_ascii h1))], ← h2, read_text t h1]
    simp [h1]
  | none =>
    have hn := parseT_none.1 hp
    unfold progP
    split
    · rename_i x hx
      split
      · rename_i h
        simp only [Bool.and_eq_true, decide_eq_true_eq] at h
        exact absurd ⟨x.1, h.1, h.2⟩ hn
      · rfl
    · rfl
/-! How long texts are. -/
def sumL (l : List (List UInt8)) : Nat := (l.map List.length).sum
theorem sumL_get : ∀ (l : List (List UInt8)), (l.getD 0 []).length + (l.getD 1 []).length ≤ sumL l
  | [] => by simp [sumL]
  | [a] => by simp [sumL]
  | a :: b :: l => by simp [sumL]
theorem itoa_len {n : Int} (h : 0 ≤ n) (h2 : n ≤ 1000000) : (itoa n).length ≤ 7 := by
  obtain ⟨u, rfl⟩ := Int.eq_ofNat_of_zero_le h
  have := dec_len 6 u (by omega)
  have e : itoa (u : Int) = decDigits u := by unfold itoa; simp
  rw [e]; omega
theorem node_len {k : Int} {nm : List UInt8} {n : Int} {c : Nat} {l : List (List UInt8)} (h : okN k nm n c = true) : (nodeT k nm n l).length ≤ 16 + sumL l := by
  have hs := sumL_get l
  unfold okN at h
  simp only [Bool.and_eq_true] at h
  unfold nodeT
  split
  · rename_i e
    have := h.1.2
    rw [if_pos e] at this
    simp only [isName, Bool.and_eq_true, decide_eq_true_eq] at this
    omega
  repeat' split
  all_goals (try (simp only [List.length_append, show wNot.length = 3 from rfl, show sp.length = 1 from rfl, show wPrev.length = 4 from rfl, show wOnce.length = 4 from rfl, show wAlways.length = 6 from rfl, show wAnd.length = 3 from rfl, show wOr.length = 2 from rfl, show wSince.length = 5 from rfl, show wTrue.length = 4 from rfl, List.length_cons, List.length_nil]; omega))
  rename_i e
  have := h.2
  rw [if_pos e] at this
  simp only [Bool.and_eq_true, decide_eq_true_eq] at this
  have hi := itoa_len this.1 this.2
  simp only [List.length_append, show wWithin.length = 6 from rfl, show sp.length = 1 from rfl]
  omega
theorem txts_len : ∀ (f : Fo), f.shp = true → sumL f.txts ≤ 16 * f.cnt
  | .nil, _ => by simp [Fo.txts, sumL]
  | .cons k nm n ks r, h => by
    simp only [Fo.shp, Bool.and_eq_true] at h
    have h1 := node_len (l := ks.txts) h.1.1
    have h2 := txts_len ks h.1.2
    have h3 := txts_len r h.2
    simp only [Fo.txts, sumL, List.map_cons, List.sum_cons, Fo.cnt] at *
    omega
theorem tx_len {t : Tm} (h : t.fo.shp = true) : t.tx.length ≤ 16 * t.fo.cnt := by
  have := txts_len t.fo h
  simp only [Tm.fo, Fo.txts, sumL, List.map_cons, List.map_nil, List.sum_cons, List.sum_nil] at this
  exact this

/-! How long words are. -/
theorem fieldsGo_len : ∀ (l cur : List UInt8) , (fieldsGo cur l).length ≤ 1 + l.length ∧ ∀ w ∈ fieldsGo cur l, w.length ≤ cur.length + l.length
  | [], cur => by
    rw [fieldsGo]
    split <;> simp
  | b :: l, cur => by
    rw [fieldsGo]
    split
    · have h1 := fieldsGo_len l []
      split
      · exact ⟨by simp; omega, fun w hw => by have := h1.2 w hw; simp at this ⊢; omega⟩
      · refine ⟨by simp; omega, fun w hw => ?_⟩
        rcases List.mem_cons.1 hw with rfl | hw
        · simp
        · have := h1.2 w hw; simp at this ⊢; omega
    · have h1 := fieldsGo_len l (cur ++ [b])
      exact ⟨by simp; omega, fun w hw => by have := h1.2 w hw; simp at this ⊢; omega⟩
theorem fieldsGoD_len : ∀ (f : Nat) (l cur : List UInt8), (fieldsGoD f cur l).length ≤ 1 + f ∧ ∀ w ∈ fieldsGoD f cur l, w.length ≤ cur.length + l.length
  | 0, l, cur => by
    rw [fieldsGoD]
    split
    · simp
    · refine ⟨by simp, fun w hw => ?_⟩
      simp at hw; rw [hw]; omega
  | f + 1, l, cur => by
    rw [fieldsGoD]
    split
    · split
      · simp
      · refine ⟨by simp, fun w hw => ?_⟩
        simp at hw; rw [hw]; omega
    split
    · have h1 := fieldsGoD_len f (l.drop (decodeL l).2) []
      refine ⟨?_, fun w hw => ?_⟩
      · rw [List.length_append]
        split <;> simp <;> omega
      · rcases List.mem_append.1 hw with hw | hw
        · split at hw
          · cases hw
          · simp at hw; rw [hw]; omega
        · have := h1.2 w hw; simp at this; omega
    · have h1 := fieldsGoD_len f (l.drop (decodeL l).2) (cur ++ l.take (decodeL l).2)
      exact ⟨by omega, fun w hw => by have := h1.2 w hw; simp at this; omega⟩
theorem fieldsX_len (l : List UInt8) : (fieldsX l).length ≤ 2 + l.length ∧ ∀ w ∈ fieldsX l, w.length ≤ l.length := by
  unfold fieldsX fields fieldsD
  split
  · have := fieldsGo_len l []
    exact ⟨by omega, fun w hw => by have := this.2 w hw; simpa using this⟩
  · have := fieldsGoD_len (l.length + 1) l []
    exact ⟨by omega, fun w hw => by have := this.2 w hw; simpa using this⟩
theorem rep1_len_le (c : UInt8) (new : List UInt8) (hn : new.length ≤ 2) : ∀ (l : List UInt8), (rep1 c new l).length ≤ 2 * l.length
  | [] => by simp [rep1]
  | b :: l => by
    have := rep1_len_le c new hn l
    rw [rep1, List.length_append, List.length_cons]
    split <;> simp <;> omega
theorem apart_len (l : List UInt8) : (apart l).length ≤ 4 * l.length := by
  have h1 := rep1_len_le 41 [32, 41] (by simp) (rep1 40 [40, 32] l)
  have h2 := rep1_len_le 40 [40, 32] (by simp) l
  unfold apart
  omega
end Go.Proofs.YtobpacebpiabcaaGreatDoor

namespace Go.Proofs.YtobpacebpiabcaaGreatDoor
open Go.Lib

/-- Kinds that keep whether something was so. -/
def isMem (k : Int) : Bool := decide (k = 6) || decide (k = 7) || decide (k = 8) || decide (k = 9)
/-- What a node keeps ahead of event i. -/
def memN (k : Int) (l : List (Nat → Bool)) : Nat → Bool
  | 0 => decide (k = 8)
  | i + 1 => if k = 6 then l.getD 0 noS i else if k = 7 then onceS (l.getD 0 noS) i else if k = 8 then alwS (l.getD 0 noS) i else sinS (l.getD 0 noS) (l.getD 1 noS) i
/-- What a node of memory keeps next, of what it kept and what its kids say. -/
def nextM (k : Int) (o x y : Bool) : Bool := if k = 6 then x else if k = 7 then o || x else if k = 8 then o && x else y || o && x
theorem mem_next (k : Int) (l : List (Nat → Bool)) (h : isMem k = true) : ∀ i, memN k l (i + 1) = nextM k (memN k l i) (l.getD 0 noS i) (l.getD 1 noS i) := by
  intro i
  have hk : k = 6 ∨ k = 7 ∨ k = 8 ∨ k = 9 := by simpa [isMem, or_assoc] using h
  rcases hk with e | e | e | e <;> subst e <;> cases i with
    | zero => simp [memN, nextM, onceS, alwS, sinS]
    | succ i => simp [memN, nextM, onceS, alwS, sinS, Bool.or_comm, Bool.and_comm]
theorem mem_out (log : List Ev) (k : Int) (nm : List UInt8) (n : Int) (l : List (Nat → Bool)) (h : isMem k = true) (i : Nat) :
    nodeS log k nm n l i = if k = 6 then memN k l i else nextM k (memN k l i) (l.getD 0 noS i) (l.getD 1 noS i) := by
  have hk : k = 6 ∨ k = 7 ∨ k = 8 ∨ k = 9 := by simpa [isMem, or_assoc] using h
  rcases hk with e | e | e | e <;> subst e <;> cases i with
    | zero => simp [memN, nextM, onceS, alwS, sinS, nodeS, prevS]
    | succ i => simp [memN, nextM, onceS, alwS, sinS, nodeS, prevS, Bool.or_comm, Bool.and_comm]
theorem memN_congr {k : Int} {l m : List (Nat → Bool)} {i : Nat} (h : ∀ q j, j < i → l.getD q noS j = m.getD q noS j) : memN k l i = memN k m i := by
  cases i with
  | zero => rfl
  | succ i =>
    have h0 : ∀ j ≤ i, l.getD 0 noS j = m.getD 0 noS j := fun j hj => h 0 j (by omega)
    have h1 : ∀ j ≤ i, l.getD 1 noS j = m.getD 1 noS j := fun j hj => h 1 j (by omega)
    rw [memN, memN, h0 i (Nat.le_refl _), onceS_congr h0, alwS_congr h0, sinS_congr h0 h1]
namespace Fo
/-- The nodes of the kinds prev, once, always and since. -/
def past : Fo → Nat
  | nil => 0
  | cons k _ _ ks r => (if isMem k = true then 1 else 0) + past ks + past r
/-- What the nodes of the past keep ahead of event i, a node ahead of those below it. -/
def kept (log : List Ev) (i : Nat) : Fo → List Bool
  | nil => []
  | cons k _ _ ks r => (if isMem k = true then [memN k (saysF log ks) i] else []) ++ kept log i ks ++ kept log i r
theorem kept_len (log : List Ev) (i : Nat) : ∀ (f : Fo), (kept log i f).length = f.past
  | nil => rfl
  | cons k _ _ ks r => by
    have h1 := kept_len log i ks
    have h2 := kept_len log i r
    rw [kept, past, List.length_append, List.length_append, h1, h2]
    split <;> rfl
/-- No within below. -/
def plainF : Fo → Bool
  | nil => true
  | cons k _ _ ks r => decide (k ≠ 10) && plainF ks && plainF r
/-- What nodes say at an event with these marks, and what they keep then. -/
def stp (marks : List (List UInt8)) : Fo → List Bool → List Bool × List Bool
  | nil, _ => ([], [])
  | cons k nm _ ks r, old =>
    let m := if isMem k = true then 1 else 0
    let a := stp marks ks ((old.drop m).take ks.past)
    let b := stp marks r ((old.drop m).drop ks.past)
    let o := old.headD false
    let x := a.1.getD 0 false
    let y := a.1.getD 1 false
    let is := if k = 1 then true else if k = 2 then marks.contains nm else if k = 3 then !x else if k = 4 then x && y else if k = 5 then x || y else if k = 6 then o else nextM k o x y
    (is :: b.1, (if isMem k = true then [nextM k o x y] else []) ++ a.2 ++ b.2)
end Fo
theorem saysF_getD (log : List Ev) (i : Nat) : ∀ (f : Fo) (q : Nat), ((saysF log f).map (fun g => g i)).getD q false = (saysF log f).getD q noS i
  | .nil, q => by simp [saysF, noS]
  | .cons k nm n ks r, 0 => rfl
  | .cons k nm n ks r, q + 1 => by
    have := saysF_getD log i r q
    simpa [saysF] using this
/-- What is said at event i, and kept behind it, of what was kept ahead of it. -/
theorem stp_ok (log : List Ev) (i : Nat) : ∀ (f : Fo), f.shp = true → f.plainF = true → Fo.stp (marksAt log i) f (f.kept log i) = ((saysF log f).map (fun g => g i), f.kept log (i + 1))
  | .nil, _, _ => rfl
  | .cons k nm n ks r, h, hp => by
    simp only [Fo.shp, Bool.and_eq_true] at h
    simp only [Fo.plainF, Bool.and_eq_true, decide_eq_true_eq] at hp
    have ik := stp_ok log i ks h.1.2 hp.1.2
    have ir := stp_ok log i r h.2 hp.2
    have hl := Fo.kept_len log i ks
    have hdrop : ((Fo.cons k nm n ks r).kept log i).drop (if isMem k = true then 1 else 0) = ks.kept log i ++ r.kept log i := by
      rw [Fo.kept]; split <;> simp
    have ht : (ks.kept log i ++ r.kept log i).take ks.past = ks.kept log i := by rw [← hl, List.take_left]
    have hd : (ks.kept log i ++ r.kept log i).drop ks.past = r.kept log i := by rw [← hl, List.drop_left]
    have ho : isMem k = true → ((Fo.cons k nm n ks r).kept log i).headD false = memN k (saysF log ks) i := fun hm => by rw [Fo.kept, if_pos hm]; rfl
    rw [Fo.stp]
    simp only [hdrop, ht, hd, ik, ir, saysF_getD]
    refine Prod.ext ?_ ?_
    · show _ :: _ = nodeS log k nm n (saysF log ks) i :: _
      congr 1
      by_cases hm : isMem k = true
      · rw [ho hm, mem_out log k nm n _ hm]
        have hk : k = 6 ∨ k = 7 ∨ k = 8 ∨ k = 9 := by simpa [isMem, or_assoc] using hm
        rw [if_neg (by omega), if_neg (by omega), if_neg (by omega), if_neg (by omega), if_neg (by omega)]
      · have hk : k = 1 ∨ k = 2 ∨ k = 3 ∨ k = 4 ∨ k = 5 := by
          simp only [isMem, Bool.or_eq_true, decide_eq_true_eq, not_or] at hm
          rcases kids_is h.1.1 with ⟨e, _⟩ | ⟨e, _⟩ | ⟨e, _⟩ | ⟨e, _⟩ | ⟨e, _⟩ <;> omega
        rcases hk with e | e | e | e | e <;> subst e <;> rfl
    · show _ = (if isMem k = true then [memN k (saysF log ks) (i + 1)] else []) ++ ks.kept log (i + 1) ++ r.kept log (i + 1)
      by_cases hm : isMem k = true
      · rw [if_pos hm, if_pos hm, ho hm, mem_next k _ hm]
      · rw [if_neg hm, if_neg hm]
end Go.Proofs.YtobpacebpiabcaaGreatDoor

namespace Go.Proofs.YtobpacebpiabcaaGreatDoor

/-- What is kept, and the sets of marks that led there. -/
abbrev Pt := List Bool × List Nat
/-- What is said on both sides at a set of marks, and what is kept then. -/
abbrev Dl := List Bool → Nat → Bool × Bool × List Bool
def Dl.diff (δ : Dl) (s : List Bool) (c : Nat) : Prop := (δ s c).1 ≠ (δ s c).2.1
instance (δ : Dl) (s : List Bool) (c : Nat) : Decidable (δ.diff s c) := by unfold Dl.diff; infer_instance
def Dl.next (δ : Dl) (s : List Bool) (c : Nat) : List Bool := (δ s c).2.2
def Dl.run (δ : Dl) : List Bool → List Nat → List Bool
  | s, [] => s
  | s, c :: l => run δ (δ.next s c) l
theorem Dl.run_snoc (δ : Dl) : ∀ (l : List Nat) (s : List Bool) (c : Nat), δ.run s (l ++ [c]) = δ.next (δ.run s l) c
  | [], _, _ => rfl
  | d :: l, s, c => by rw [List.cons_append, run, run_snoc δ l, run]
def inn (δ : Dl) (s : List Bool) (p : List Nat) : List Nat → List Pt → Option (List Nat) × List Pt
  | [], Q => (none, Q)
  | c :: cs, Q =>
    if δ.diff s c then (some (p ++ [c]), Q)
    else if (Q.map (·.1)).contains (δ.next s c) = true then inn δ s p cs Q
    else inn δ s p cs (Q ++ [(δ.next s c, p ++ [c])])
def outr (δ : Dl) (m : Nat) : Nat → Nat → List Pt → Option (List Nat)
  | 0, _, _ => none
  | fuel + 1, i, Q =>
    match Q[i]? with
    | none => none
    | some x =>
      match inn δ x.1 x.2 (List.range m) Q with
      | (some r, _) => some r
      | (none, Q') => outr δ m fuel (i + 1) Q'
section
variable (δ : Dl) (m n : Nat) (beg : List Bool)
/-- The state is that behind its sets; nothing differed on the way. -/
def Good (x : Pt) : Prop := x.1.length = n ∧ (∀ c ∈ x.2, c < m) ∧ δ.run beg x.2 = x.1 ∧ ∀ u d v, x.2 = u ++ d :: v → ¬ δ.diff (δ.run beg u) d
/-- Nothing differs at c, and what is kept then stands in the list. -/
def Fine (Q : List Pt) (x : Pt) (c : Nat) : Prop := ¬ δ.diff x.1 c ∧ ∃ y ∈ Q, y.1 = δ.next x.1 c ∧ y.2.length ≤ x.2.length + 1
structure Inv (i : Nat) (Q : List Pt) : Prop where
  first : Q[0]? = some (beg, [])
  good : ∀ x ∈ Q, Good δ m n beg x
  rise : ∀ (a b : Nat) (x y : Pt), a ≤ b → Q[a]? = some x → Q[b]? = some y → x.2.length ≤ y.2.length
  top : ∀ (x y : Pt), Q[i]? = some x → y ∈ Q → y.2.length ≤ x.2.length + 1
  done : ∀ (a : Nat) (x : Pt), a < i → Q[a]? = some x → ∀ c < m, Fine δ Q x c
  uniq : (Q.map (·.1)).Nodup
end
section
variable {δ : Dl} {m n : Nat} {beg : List Bool}
theorem Fine.mono {Q R : List Pt} {x : Pt} {c : Nat} (h : Fine δ Q x c) (hs : ∀ y ∈ Q, y ∈ R) : Fine δ R x c := by
  obtain ⟨h1, y, h2, h3⟩ := h
  exact ⟨h1, y, hs y h2, h3⟩
theorem inv_start (hb : beg.length = n) : Inv δ m n beg 0 [(beg, [])] where
  first := rfl
  good := fun x hx => by
    have : x = (beg, []) := by simpa using hx
    subst this
    exact ⟨hb, fun c hc => by simp at hc, rfl, fun u d v h => by simp at h⟩
  rise := fun a b x y _ h1 h2 => by
    have e1 : x = (beg, []) := by have := List.mem_of_getElem? h1; simpa using this
    rw [e1]; exact Nat.zero_le _
  top := fun x y h1 h2 => by
    have e1 : y = (beg, []) := by simpa using h2
    rw [e1]; exact Nat.zero_le _
  done := fun a x h => by omega
  uniq := by simp
theorem Inv.add {i : Nat} {Q : List Pt} {x : Pt} {c : Nat} (h : Inv δ m n beg i Q) (hx : Q[i]? = some x) (hc : c < m) (hd : ¬ δ.diff x.1 c) (hn : (δ.next x.1 c).length = n) (hnew : (Q.map (·.1)).contains (δ.next x.1 c) ≠ true) :
    Inv δ m n beg i (Q ++ [(δ.next x.1 c, x.2 ++ [c])]) := by
  have hxm := List.mem_of_getElem? hx
  have hi : i < Q.length := (List.getElem?_eq_some_iff.1 hx).1
  have old : ∀ a, a < Q.length → (Q ++ [(δ.next x.1 c, x.2 ++ [c])])[a]? = Q[a]? := fun a ha => List.getElem?_append_left ha
  have lens : ∀ y ∈ Q ++ [(δ.next x.1 c, x.2 ++ [c])], y.2.length ≤ x.2.length + 1 := fun y hy => by
    rcases List.mem_append.1 hy with hy | hy
    · exact h.top x y hx hy
    · have : y = (δ.next x.1 c, x.2 ++ [c]) := by simpa using hy
      rw [this]; simp
  constructor
  · rw [old 0 (by omega)]; exact h.first
  · intro y hy
    rcases List.mem_append.1 hy with hy | hy
    · exact h.good y hy
    · have : y = (δ.next x.1 c, x.2 ++ [c]) := by simpa using hy
      subst this
      obtain ⟨_, g2, g3, g4⟩ := h.good x hxm
      refine ⟨hn, fun d hd => ?_, ?_, fun u d v e => ?_⟩
      · rcases List.mem_append.1 hd with q | q
        · exact g2 d q
        · have : d = c := by simpa using q
          rw [this]; exact hc
      · show δ.run beg (x.2 ++ [c]) = _; rw [Dl.run_snoc, g3]
      · have e' : x.2 ++ [c] = u ++ d :: v := e
        rcases List.eq_nil_or_concat v with hv | ⟨v', z, hv⟩
        · subst hv
          obtain ⟨e1, e2⟩ := List.append_inj' e' rfl
          have e3 : c = d := by simpa using e2
          rw [← e1, g3, ← e3]; exact hd
        · subst hv
          have : x.2 ++ [c] = (u ++ d :: v') ++ [z] := by simpa using e'
          obtain ⟨e1, _⟩ := List.append_inj' this rfl
          exact g4 u d v' e1
  · intro a b y z hab h1 h2
    by_cases hb : b < Q.length
    · rw [old b hb] at h2; rw [old a (by omega)] at h1
      exact h.rise a b y z hab h1 h2
    · have hz : z = (δ.next x.1 c, x.2 ++ [c]) := by
        rw [List.getElem?_append_right (by omega)] at h2
        have := List.mem_of_getElem? h2
        simpa using this
      have := lens y (List.mem_of_getElem? h1)
      rw [hz]; simpa using this
  · intro y z h1 h2
    rw [old i hi, hx] at h1
    have : x = y := by simpa using h1
    rw [← this]; exact lens z h2
  · intro a y ha h1 d hd'
    rw [old a (by omega)] at h1
    exact (h.done a y ha h1 d hd').mono fun z hz => List.mem_append_left _ hz
  · rw [List.map_append, List.nodup_append]
    refine ⟨h.uniq, by simp, fun a ha b hb e => hnew ?_⟩
    have : b = δ.next x.1 c := by simpa using hb
    rw [List.contains_iff_mem, ← this, ← e]; exact ha
/-- One state's sets. -/
theorem inn_ok (hlen : ∀ s c, s.length = n → c < m → (δ.next s c).length = n) {i : Nat} {x : Pt} : ∀ (cs : List Nat) (Q : List Pt), Inv δ m n beg i Q → Q[i]? = some x → (∀ c ∈ cs, c < m) →
    (∀ r Q', inn δ x.1 x.2 cs Q = (some r, Q') → ∃ c, c < m ∧ r = x.2 ++ [c] ∧ δ.diff x.1 c ∧ Inv δ m n beg i Q' ∧ Q'[i]? = some x) ∧
    (∀ Q', inn δ x.1 x.2 cs Q = (none, Q') → Inv δ m n beg i Q' ∧ Q'[i]? = some x ∧ (∀ y ∈ Q, y ∈ Q') ∧ ∀ c ∈ cs, Fine δ Q' x c)
  | [], Q, h, hx, _ => by
    refine ⟨fun r Q' e => by simp [inn] at e, fun Q' e => ?_⟩
    have : Q = Q' := by simpa [inn] using e
    subst this
    exact ⟨h, hx, fun y hy => hy, fun c hc => by simp at hc⟩
  | c :: cs, Q, h, hx, hcs => by
    have hc := hcs c (by simp)
    have hcs' : ∀ d ∈ cs, d < m := fun d hd => hcs d (by simp [hd])
    have hgx := h.good x (List.mem_of_getElem? hx)
    by_cases hd : δ.diff x.1 c
    · refine ⟨fun r Q' e => ?_, fun Q' e => by simp [inn, hd] at e⟩
      have : x.2 ++ [c] = r ∧ Q = Q' := by simpa [inn, hd] using e
      obtain ⟨e1, e2⟩ := this
      subst e1 e2
      exact ⟨c, hc, rfl, hd, h, hx⟩
    by_cases hm : (Q.map (·.1)).contains (δ.next x.1 c) = true
    · have e0 : inn δ x.1 x.2 (c :: cs) Q = inn δ x.1 x.2 cs Q := by rw [inn, if_neg hd, if_pos hm]
      rw [e0]
      obtain ⟨a1, a2⟩ := inn_ok hlen cs Q h hx hcs'
      refine ⟨a1, fun Q' e => ?_⟩
      obtain ⟨b1, b2, b3, b4⟩ := a2 Q' e
      refine ⟨b1, b2, b3, fun d hdd => ?_⟩
      rcases List.mem_cons.1 hdd with q | q
      · subst q
        rw [List.contains_iff_mem, List.mem_map] at hm
        obtain ⟨y, hy, ey⟩ := hm
        exact ⟨hd, y, b3 y hy, ey, h.top x y hx hy⟩
      · exact b4 d q
    · have e0 : inn δ x.1 x.2 (c :: cs) Q = inn δ x.1 x.2 cs (Q ++ [(δ.next x.1 c, x.2 ++ [c])]) := by rw [inn, if_neg hd, if_neg hm]
      rw [e0]
      have h' := h.add hx hc hd (hlen _ _ hgx.1 hc) hm
      have hx' : (Q ++ [(δ.next x.1 c, x.2 ++ [c])])[i]? = some x := by
        rw [List.getElem?_append_left (List.getElem?_eq_some_iff.1 hx).1]; exact hx
      obtain ⟨a1, a2⟩ := inn_ok hlen cs _ h' hx' hcs'
      refine ⟨a1, fun Q' e => ?_⟩
      obtain ⟨b1, b2, b3, b4⟩ := a2 Q' e
      refine ⟨b1, b2, fun y hy => b3 y (List.mem_append_left _ hy), fun d hdd => ?_⟩
      rcases List.mem_cons.1 hdd with q | q
      · subst q
        exact ⟨hd, (δ.next x.1 d, x.2 ++ [d]), b3 _ (List.mem_append_right _ (List.mem_singleton.2 rfl)), rfl, by simp⟩
      · exact b4 d q
theorem Inv.succ {i : Nat} {Q : List Pt} {x : Pt} (h : Inv δ m n beg i Q) (hx : Q[i]? = some x) (hf : ∀ c < m, Fine δ Q x c) : Inv δ m n beg (i + 1) Q where
  first := h.first
  good := h.good
  rise := h.rise
  top := fun y z hy hz => by
    have h1 := h.top x z hx hz
    have h2 := h.rise i (i + 1) x y (by omega) hx hy
    omega
  done := fun a y ha hy c hc => by
    by_cases e : a = i
    · subst e
      rw [hx] at hy
      have : x = y := by simpa using hy
      rw [← this]; exact hf c hc
    · exact h.done a y (by omega) hy c hc
  uniq := h.uniq
theorem nat_nodup : ∀ (N : Nat) (l : List Nat), l.Nodup → (∀ x ∈ l, x < N) → l.length ≤ N
  | 0, l, _, h => by
    cases l with
    | nil => exact Nat.le_refl _
    | cons a _ => have := h a (by simp); omega
  | N + 1, l, hn, h => by
    by_cases hm : N ∈ l
    · have := nat_nodup N (l.erase N) (hn.erase N) (fun x hx => by
        have h1 := (List.Nodup.mem_erase_iff hn).1 hx
        have := h x h1.2
        omega)
      rw [List.length_erase_of_mem hm] at this
      omega
    · have := nat_nodup N l hn (fun x hx => by
        have := h x hx
        have : x ≠ N := fun e => hm (e ▸ hx)
        omega)
      omega
/-- A list of bools as a number. -/
def codeN : Nat → List Bool → Nat
  | a, [] => a
  | a, b :: l => codeN (2 * a + if b then 1 else 0) l
theorem codeN_lt : ∀ (l : List Bool) (a : Nat), codeN a l < (a + 1) * 2 ^ l.length ∧ a * 2 ^ l.length ≤ codeN a l
  | [], a => by simp [codeN]
  | b :: l, a => by
    obtain ⟨h1, h2⟩ := codeN_lt l (2 * a + if b then 1 else 0)
    have e : 2 ^ (b :: l).length = 2 * 2 ^ l.length := by rw [List.length_cons, Nat.pow_succ]; omega
    rw [codeN, e]
    generalize 2 ^ l.length = q at *
    have k1 : (2 * a + 1 + 1) * q = (a + 1) * (2 * q) := by grind
    have k2 : (2 * a) * q = a * (2 * q) := by grind
    have k3 : (2 * a + 1) * q = 2 * a * q + q := by grind
    have k4 : (2 * a + 1 + 1) * q = 2 * a * q + q + q := by grind
    cases b <;> simp only [if_true, if_false, Nat.add_zero, Bool.false_eq_true] at h1 h2 ⊢ <;> omega
theorem codeN_inj : ∀ (l l' : List Bool) (a a' : Nat), l.length = l'.length → codeN a l = codeN a' l' → a = a' ∧ l = l'
  | [], [], a, a', _, h => ⟨h, rfl⟩
  | b :: l, b' :: l', a, a', hl, h => by
    obtain ⟨h1, h2⟩ := codeN_inj l l' _ _ (by simpa using hl) h
    subst h2
    cases b <;> cases b' <;> simp at h1 ⊢ <;> omega
  | [], _ :: _, _, _, hl, _ => by simp at hl
  | _ :: _, [], _, _, hl, _ => by simp at hl
theorem Inv.len {i : Nat} {Q : List Pt} (h : Inv δ m n beg i Q) : Q.length ≤ 2 ^ n := by
  have := nat_nodup (2 ^ n) ((Q.map (·.1)).map (codeN 0)) (by
    rw [List.nodup_iff_pairwise_ne, List.pairwise_map]
    refine List.Pairwise.imp_of_mem ?_ (List.nodup_iff_pairwise_ne.1 h.uniq)
    intro a b ha hb hab e
    obtain ⟨x, hx, ex⟩ := List.mem_map.1 ha
    obtain ⟨y, hy, ey⟩ := List.mem_map.1 hb
    exact hab (codeN_inj a b 0 0 (by rw [← ex, ← ey, (h.good x hx).1, (h.good y hy).1]) e).2) (fun c hc => by
    obtain ⟨s, hs, es⟩ := List.mem_map.1 hc
    obtain ⟨x, hx, ex⟩ := List.mem_map.1 hs
    have := (codeN_lt s 0).1
    rw [← es, ← (h.good x hx).1, ex]
    omega)
  simpa using this
/-- While x is next, all that is as near or nearer has been seen. -/
theorem Inv.near {i : Nat} {Q : List Pt} {x : Pt} (h : Inv δ m n beg i Q) (hx : Q[i]? = some x) : ∀ (k : Nat) (w : List Nat), w.length = k → k ≤ x.2.length → (∀ c ∈ w, c < m) → ∃ y ∈ Q, y.1 = δ.run beg w ∧ y.2.length ≤ w.length
  | 0, w, hw, _, _ => by
    have : w = [] := List.length_eq_zero_iff.1 hw
    subst this
    exact ⟨_, List.mem_of_getElem? h.first, rfl, Nat.le_refl _⟩
  | k + 1, w, hw, hk, hm => by
    rcases List.eq_nil_or_concat w with e | ⟨u, c, e⟩
    · subst e; simp at hw
    subst e
    have hu : u.length = k := by simpa using hw
    obtain ⟨y, hy, ey, ly⟩ := Inv.near h hx k u hu (by omega) (fun d hd => hm d (by simp [hd]))
    obtain ⟨a, ha⟩ := List.mem_iff_getElem?.1 hy
    have hai : a < i := by
      refine Nat.lt_of_not_le fun hle => ?_
      have := h.rise i a x y hle hx ha
      omega
    obtain ⟨_, z, hz, ez, lz⟩ := h.done a y hai ha c (hm c (by simp))
    refine ⟨z, hz, ?_, by simp only [List.concat_eq_append, List.length_append, List.length_singleton]; omega⟩
    rw [List.concat_eq_append, Dl.run_snoc, ← ey]; exact ez
/-- No log that is shorter differs. -/
theorem Inv.least {i : Nat} {Q : List Pt} {x : Pt} (h : Inv δ m n beg i Q) (hx : Q[i]? = some x) (w : List Nat) (c : Nat) (hw : ∀ d ∈ w, d < m) (hc : c < m) (hd : δ.diff (δ.run beg w) c) : x.2.length ≤ w.length := by
  refine Nat.le_of_not_lt fun hlt => ?_
  obtain ⟨y, hy, ey, ly⟩ := h.near hx w.length w rfl (by omega) hw
  obtain ⟨a, ha⟩ := List.mem_iff_getElem?.1 hy
  have hai : a < i := by
    refine Nat.lt_of_not_le fun hle => ?_
    have := h.rise i a x y hle hx ha
    omega
  exact (h.done a y hai ha c hc).1 (ey ▸ hd)
/-- Behind the last one nothing differs. -/
theorem Inv.all {i : Nat} {Q : List Pt} (h : Inv δ m n beg i Q) (hi : Q.length ≤ i) : ∀ (k : Nat) (w : List Nat), w.length = k → (∀ c ∈ w, c < m) → (∃ y ∈ Q, y.1 = δ.run beg w) ∧ ∀ c < m, ¬ δ.diff (δ.run beg w) c := by
  have fin : ∀ y ∈ Q, ∀ c < m, Fine δ Q y c := fun y hy c hc => by
    obtain ⟨a, ha⟩ := List.mem_iff_getElem?.1 hy
    exact h.done a y (by have := (List.getElem?_eq_some_iff.1 ha).1; omega) ha c hc
  have ex : ∀ (k : Nat) (w : List Nat), w.length = k → (∀ c ∈ w, c < m) → ∃ y ∈ Q, y.1 = δ.run beg w := by
    intro k
    induction k with
    | zero =>
      intro w hw _
      have : w = [] := List.length_eq_zero_iff.1 hw
      subst this
      exact ⟨_, List.mem_of_getElem? h.first, rfl⟩
    | succ k ih =>
      intro w hw hm
      rcases List.eq_nil_or_concat w with e | ⟨u, c, e⟩
      · subst e; simp at hw
      subst e
      obtain ⟨y, hy, ey⟩ := ih u (by simpa using hw) (fun d hd => hm d (by simp [hd]))
      obtain ⟨_, z, hz, ez, _⟩ := fin y hy c (hm c (by simp))
      exact ⟨z, hz, by rw [List.concat_eq_append, Dl.run_snoc, ← ey]; exact ez⟩
  intro k w hw hm
  obtain ⟨y, hy, ey⟩ := ex k w hw hm
  exact ⟨⟨y, hy, ey⟩, fun c hc hd => (fin y hy c hc).1 (ey ▸ hd)⟩
/-- What the search finds. -/
def FoundR (δ : Dl) (m : Nat) (beg : List Bool) : Option (List Nat) → Prop
  | none => ∀ w, (∀ c ∈ w, c < m) → ∀ c < m, ¬ δ.diff (δ.run beg w) c
  | some r => ∃ w c, r = w ++ [c] ∧ (∀ d ∈ r, d < m) ∧ δ.diff (δ.run beg w) c ∧ (∀ u d v, w = u ++ d :: v → ¬ δ.diff (δ.run beg u) d) ∧ ∀ w' c', (∀ d ∈ w', d < m) → c' < m → δ.diff (δ.run beg w') c' → w.length ≤ w'.length
theorem outr_ok (hlen : ∀ s c, s.length = n → c < m → (δ.next s c).length = n) : ∀ (fuel i : Nat) (Q : List Pt), Inv δ m n beg i Q → 2 ^ n < fuel + i → FoundR δ m beg (outr δ m fuel i Q)
  | 0, i, Q, h, hf => by
    have := h.len
    show FoundR δ m beg none
    exact fun w hw => (h.all (by omega) w.length w rfl hw).2
  | fuel + 1, i, Q, h, hf => by
    rw [outr]
    cases hx : Q[i]? with
    | none => exact fun w hw => (h.all (List.getElem?_eq_none_iff.1 hx) w.length w rfl hw).2
    | some x =>
      dsimp only
      obtain ⟨a1, a2⟩ := inn_ok hlen (List.range m) Q h hx (fun c hc => List.mem_range.1 hc)
      cases hr : inn δ x.1 x.2 (List.range m) Q with
      | mk o Q' =>
        cases o with
        | some r =>
          obtain ⟨c, hc, e, hd, h', hx'⟩ := a1 r Q' hr
          obtain ⟨_, g2, g3, g4⟩ := h'.good x (List.mem_of_getElem? hx')
          refine ⟨x.2, c, e, fun d hdr => ?_, by rw [g3]; exact hd, g4, fun w' c' hw' hc' hd' => h'.least hx' w' c' hw' hc' hd'⟩
          subst e
          rcases List.mem_append.1 hdr with q | q
          · exact g2 d q
          · have : d = c := by simpa using q
            rw [this]; exact hc
        | none =>
          obtain ⟨b1, b2, b3, b4⟩ := a2 Q' hr
          exact outr_ok hlen fuel (i + 1) Q' (b1.succ b2 (fun c hc => b4 c (List.mem_range.2 hc))) (by omega)
theorem search_ok (hlen : ∀ s c, s.length = n → c < m → (δ.next s c).length = n) (hb : beg.length = n) : FoundR δ m beg (outr δ m (2 ^ n + 1) 0 [(beg, [])]) := outr_ok hlen _ _ _ (inv_start hb) (by omega)
end
end Go.Proofs.YtobpacebpiabcaaGreatDoor
