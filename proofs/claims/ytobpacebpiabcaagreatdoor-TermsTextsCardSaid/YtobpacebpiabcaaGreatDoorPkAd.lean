/- Texts Ad Ae Af Ai Aj in one. -/
import Derived.Test.YtobpacebpiabcaaGreatDoorPkAa
import Derived.Lib.SpaceU
namespace Go.Proofs.YtobpacebpiabcaaGreatDoor
open Go.Lib

/-- An event: its day and its marks. -/
abbrev Ev := Int × List (List UInt8)
def dayAt (log : List Ev) (i : Nat) : Int := (log.getD i (0, [])).1
def marksAt (log : List Ev) (i : Nat) : List (List UInt8) := (log.getD i (0, [])).2
def prevS (a : Nat → Bool) : Nat → Bool
  | 0 => false
  | i + 1 => a i
def onceS (a : Nat → Bool) : Nat → Bool
  | 0 => a 0
  | i + 1 => onceS a i || a (i + 1)
def alwS (a : Nat → Bool) : Nat → Bool
  | 0 => a 0
  | i + 1 => alwS a i && a (i + 1)
def sinS (a b : Nat → Bool) : Nat → Bool
  | 0 => b 0
  | i + 1 => b (i + 1) || sinS a b i && a (i + 1)
/-- The last day ahead of event i on which it was so. -/
def lastD (a : Nat → Bool) (log : List Ev) : Nat → Int
  | 0 => -1
  | i + 1 => if a i = true then dayAt log i else lastD a log i
def witS (a : Nat → Bool) (log : List Ev) (n : Int) (i : Nat) : Bool := decide (0 ≤ lastD a log (i + 1)) && decide (dayAt log i - n ≤ lastD a log (i + 1))
def noS : Nat → Bool := fun _ => false
/-- What a node says, of what its kids say. -/
def nodeS (log : List Ev) (k : Int) (nm : List UInt8) (n : Int) (l : List (Nat → Bool)) (i : Nat) : Bool :=
  if k = 1 then true
  else if k = 2 then (marksAt log i).contains nm
  else if k = 3 then !(l.getD 0 noS i)
  else if k = 4 then l.getD 0 noS i && l.getD 1 noS i
  else if k = 5 then l.getD 0 noS i || l.getD 1 noS i
  else if k = 6 then prevS (l.getD 0 noS) i
  else if k = 7 then onceS (l.getD 0 noS) i
  else if k = 8 then alwS (l.getD 0 noS) i
  else if k = 9 then sinS (l.getD 0 noS) (l.getD 1 noS) i
  else witS (l.getD 0 noS) log n i
def saysF (log : List Ev) : Fo → List (Nat → Bool)
  | .nil => []
  | .cons k nm n ks r => nodeS log k nm n (saysF log ks) :: saysF log r
def Tm.says (t : Tm) (log : List Ev) (i : Nat) : Bool := nodeS log t.1 t.2.1 t.2.2.1 (saysF log t.2.2.2) i
def Tm.watch (t : Tm) (log : List Ev) : List Bool := (List.range log.length).map (t.says log)

/-! The document's own loops: from the event back to the first one. -/
theorem lastD_yes {a : Nat → Bool} {log : List Ev} {i : Nat} (h : a i = true) : lastD a log (i + 1) = dayAt log i := by rw [lastD, if_pos h]
/-! What is said depends on what was so till then alone. -/
theorem onceS_congr {a b : Nat → Bool} : ∀ {i : Nat}, (∀ j ≤ i, a j = b j) → onceS a i = onceS b i
  | 0, h => h 0 (Nat.le_refl _)
  | i + 1, h => by rw [onceS, onceS, onceS_congr (i := i) (fun j hj => h j (by omega)), h (i + 1) (Nat.le_refl _)]
theorem alwS_congr {a b : Nat → Bool} : ∀ {i : Nat}, (∀ j ≤ i, a j = b j) → alwS a i = alwS b i
  | 0, h => h 0 (Nat.le_refl _)
  | i + 1, h => by rw [alwS, alwS, alwS_congr (i := i) (fun j hj => h j (by omega)), h (i + 1) (Nat.le_refl _)]
theorem sinS_congr {a b c d : Nat → Bool} : ∀ {i : Nat}, (∀ j ≤ i, a j = c j) → (∀ j ≤ i, b j = d j) → sinS a b i = sinS c d i
  | 0, _, h => h 0 (Nat.le_refl _)
  | i + 1, g, h => by rw [sinS, sinS, sinS_congr (i := i) (fun j hj => g j (by omega)) (fun j hj => h j (by omega)), h (i + 1) (Nat.le_refl _), g (i + 1) (Nat.le_refl _)]
theorem prevS_congr {a b : Nat → Bool} : ∀ {i : Nat}, (∀ j < i, a j = b j) → prevS a i = prevS b i
  | 0, _ => rfl
  | i + 1, h => h i (by omega)
theorem lastD_congr {a b : Nat → Bool} {l m : List Ev} : ∀ {i : Nat}, (∀ j < i, a j = b j) → (∀ j < i, dayAt l j = dayAt m j) → lastD a l i = lastD b m i
  | 0, _, _ => rfl
  | i + 1, h, g => by rw [lastD, lastD, lastD_congr (i := i) (fun j hj => h j (by omega)) (fun j hj => g j (by omega)), h i (by omega), g i (by omega)]
/-- Which marks a list of terms names. -/
def Fo.names : Fo → List (List UInt8)
  | .nil => []
  | .cons k nm _ ks r => (if k = 2 then [nm] else []) ++ names ks ++ names r
/-- Two lists of functions that agree up to i. -/
def Agr (i : Nat) (l m : List (Nat → Bool)) : Prop := l.length = m.length ∧ ∀ k j, j ≤ i → l.getD k noS j = m.getD k noS j
theorem node_agr {l m : List Ev} {k : Int} {nm : List UInt8} {n : Int} {u v : List (Nat → Bool)} {i : Nat} (hd : ∀ j ≤ i, dayAt l j = dayAt m j) (hm : k = 2 → ∀ j ≤ i, (marksAt l j).contains nm = (marksAt m j).contains nm)
    (h : Agr i u v) : ∀ j ≤ i, nodeS l k nm n u j = nodeS m k nm n v j := by
  intro j hj
  have h0 : ∀ q ≤ j, u.getD 0 noS q = v.getD 0 noS q := fun q hq => h.2 0 q (by omega)
  have h1 : ∀ q ≤ j, u.getD 1 noS q = v.getD 1 noS q := fun q hq => h.2 1 q (by omega)
  unfold nodeS
  by_cases k2 : k = 2
  · subst k2; simp only [if_true]; rw [if_neg (by decide), if_neg (by decide)]; exact hm rfl j hj
  rw [if_neg k2, if_neg k2, h0 j (Nat.le_refl _), h1 j (Nat.le_refl _), prevS_congr (fun q hq => h0 q (by omega)), onceS_congr h0, alwS_congr h0, sinS_congr h0 h1]
  unfold witS
  rw [lastD_congr (i := j + 1) (fun q hq => h0 q (by omega)) (fun q hq => hd q (by omega)), hd j hj]
end Go.Proofs.YtobpacebpiabcaaGreatDoor

namespace Go.Proofs.YtobpacebpiabcaaGreatDoor
open Go.Lib

theorem text_inj {t u : Tm} (ht : t.ok = true) (hu : u.ok = true) (h : t.tx = u.tx) : t = u := by
  have h1 := read_text t ht
  rw [h, read_text u hu] at h1
  injection h1 with h1
  injection h1 with h1 _
  exact h1.symm
namespace Fo
def same : Fo → Fo → Bool
  | nil, nil => true
  | cons k nm n ks r, cons k2 nm2 n2 ks2 r2 => decide (k = k2) && decide (nm = nm2) && decide (n = n2) && same ks ks2 && same r r2
  | nil, cons _ _ _ _ _ => false
  | cons _ _ _ _ _, nil => false
theorem same_iff : ∀ (f g : Fo), same f g = true ↔ f = g
  | nil, nil => by simp [same]
  | cons k nm n ks r, cons k2 nm2 n2 ks2 r2 => by simp [same, same_iff ks ks2, same_iff r r2, and_assoc]
  | nil, cons _ _ _ _ _ => by simp [same]
  | cons _ _ _ _ _, nil => by simp [same]
end Fo
def Tm.same (t u : Tm) : Bool := Fo.same t.fo u.fo
theorem Tm.same_iff (t u : Tm) : t.same u = true ↔ t = u := by
  obtain ⟨k, nm, n, ks⟩ := t
  obtain ⟨k2, nm2, n2, ks2⟩ := u
  unfold Tm.same
  rw [Fo.same_iff]
  simp [Tm.fo]
def yesT : Tm := (1, [], 0, .nil)
def get0 : Fo → Tm
  | .nil => (0, [], 0, .nil)
  | .cons k nm n ks _ => (k, nm, n, ks)
def get1 : Fo → Tm
  | .nil => (0, [], 0, .nil)
  | .cons _ _ _ _ r => get0 r
/-- A node over shorter kids, by the rules. -/
def shN (k : Int) (nm : List UInt8) (n : Int) (ks : Fo) : Tm :=
  if k = 3 ∧ (get0 ks).1 = 3 then get0 (get0 ks).2.2.2
  else if k = 4 ∧ (get0 ks).1 = 1 then get1 ks
  else if k = 4 ∧ ((get1 ks).1 = 1 ∨ (get0 ks).same (get1 ks) = true) then get0 ks
  else if k = 5 ∧ ((get0 ks).1 = 1 ∨ (get1 ks).1 = 1) then yesT
  else if k = 5 ∧ (get0 ks).same (get1 ks) = true then get0 ks
  else if (k = 7 ∨ k = 8) ∧ ((get0 ks).1 = k ∨ (get0 ks).1 = 1) then get0 ks
  else if k = 9 ∧ (get1 ks).1 = 1 then get1 ks
  else if k = 10 ∧ (get0 ks).1 = 1 then get0 ks
  else (k, nm, n, ks)
def Fo.shorts : Fo → Fo
  | .nil => .nil
  | .cons k nm n ks r => .cons (shN k nm n (shorts ks)).1 (shN k nm n (shorts ks)).2.1 (shN k nm n (shorts ks)).2.2.1 (shN k nm n (shorts ks)).2.2.2 (shorts r)
def Tm.short (t : Tm) : Tm := shN t.1 t.2.1 t.2.2.1 t.2.2.2.shorts
theorem once_once (a : Nat → Bool) : ∀ i, onceS (onceS a) i = onceS a i
  | 0 => rfl
  | i + 1 => by rw [onceS, once_once a i, onceS]; cases onceS a i <;> cases a (i + 1) <;> rfl
theorem alw_alw (a : Nat → Bool) : ∀ i, alwS (alwS a) i = alwS a i
  | 0 => rfl
  | i + 1 => by rw [alwS, alw_alw a i, alwS]; cases alwS a i <;> cases a (i + 1) <;> rfl
theorem once_yes {a : Nat → Bool} (h : ∀ i, a i = true) : ∀ i, onceS a i = true
  | 0 => h 0
  | i + 1 => by rw [onceS, h (i + 1)]; simp
theorem alw_yes {a : Nat → Bool} (h : ∀ i, a i = true) : ∀ i, alwS a i = true
  | 0 => h 0
  | i + 1 => by rw [alwS, h (i + 1), alw_yes h i]; rfl
theorem sin_yes {a b : Nat → Bool} (h : ∀ i, b i = true) : ∀ i, sinS a b i = true
  | 0 => h 0
  | i + 1 => by rw [sinS, h (i + 1)]; rfl
theorem wit_yes {a : Nat → Bool} {log : List Ev} {n : Int} (h : ∀ i, a i = true) (hn : 0 ≤ n) (hd : ∀ i, 0 ≤ dayAt log i) (i : Nat) : witS a log n i = true := by
  unfold witS
  rw [lastD_yes (h i)]
  have := hd i
  simp only [Bool.and_eq_true, decide_eq_true_eq]
  omega
/-- What a node of the kind true says. -/
theorem node_one (log : List Ev) (nm : List UInt8) (n : Int) (l : List (Nat → Bool)) (i : Nat) : nodeS log 1 nm n l i = true := rfl
/-- The shorter node s stands for a node. -/
structure Sh (k : Int) (nm : List UInt8) (n : Int) (ks : Fo) (s : Tm) : Prop where
  shp : s.fo.shp = true
  cnt : s.fo.cnt ≤ ks.cnt + 1
  names : ∀ x ∈ s.fo.names, x ∈ (Fo.cons k nm n ks .nil).names
  says : ∀ log, (∀ i, 0 ≤ dayAt log i) → ∀ i, s.says log i = nodeS log k nm n (saysF log ks) i
theorem Sh.own {k : Int} {nm : List UInt8} {n : Int} {ks : Fo} (h : okN k nm n ks.len = true) (h2 : ks.shp = true) : Sh k nm n ks (k, nm, n, ks) :=
  ⟨by simp [Tm.fo, Fo.shp, h, h2], by simp [Tm.fo, Fo.cnt], fun _ hx => hx, fun _ _ _ => rfl⟩
theorem yes_form {k : Int} {nm : List UInt8} {n : Int} {ks : Fo} (h : okN k nm n ks.len = true) (h1 : k = 1) : (k, nm, n, ks) = yesT := by
  rcases kids_is h with ⟨_, hc, e1, e2⟩ | ⟨e, _⟩ | ⟨e, _⟩ | ⟨e, _⟩ | ⟨e, _⟩
  · rw [h1, e1, e2, Fo.len_zero hc]; rfl
  all_goals omega
theorem sh_ok {k : Int} {nm : List UInt8} {n : Int} {ks : Fo} (h : okN k nm n ks.len = true) (h2 : ks.shp = true) : Sh k nm n ks (shN k nm n ks) := by
  rcases kids_is h with ⟨e, hc, _, _⟩ | ⟨e, hc, _, _⟩ | ⟨e, hc, _, _⟩ | ⟨e, hc, _, hn, _⟩ | ⟨e, hc, _, _⟩
  · subst e; exact Sh.own h h2
  · subst e; exact Sh.own h h2
  · obtain ⟨k1, nm1, n1, ks1, rfl⟩ := Fo.len_one hc
    simp only [Fo.shp, Bool.and_eq_true] at h2
    have hk : (Tm.fo (k1, nm1, n1, ks1)).shp = true := by simp [Tm.fo, Fo.shp, h2.1.1, h2.1.2]
    rcases e with e | e | e | e <;> subst e
    · by_cases h3 : k1 = 3
      · have hs : shN 3 nm n (.cons k1 nm1 n1 ks1 .nil) = get0 ks1 := if_pos ⟨rfl, h3⟩
        rw [hs]
        subst h3
        rcases kids_is h2.1.1 with ⟨e, _⟩ | ⟨e, _⟩ | ⟨_, hc1, _⟩ | ⟨e, _⟩ | ⟨e, _⟩
        · omega
        · omega
        · obtain ⟨k0, nm0, n0, ks0, rfl⟩ := Fo.len_one hc1
          have h4 := h2.1.2
          refine ⟨h4, by simp only [get0, Tm.fo, Fo.cnt]; omega, fun x hx => by simpa [Fo.names, get0, Tm.fo] using hx, fun log _ i => ?_⟩
          show nodeS log k0 nm0 n0 (saysF log ks0) i = !(!(nodeS log k0 nm0 n0 (saysF log ks0) i))
          rw [Bool.not_not]
        · omega
        · omega
      · have hs : shN 3 nm n (.cons k1 nm1 n1 ks1 .nil) = (3, nm, n, .cons k1 nm1 n1 ks1 .nil) := by
          unfold shN
          rw [if_neg (fun q => h3 q.2)]; rfl
        rw [hs]; exact Sh.own h (by simp [Fo.shp, h2])
    · have hs : shN 6 nm n (.cons k1 nm1 n1 ks1 .nil) = (6, nm, n, .cons k1 nm1 n1 ks1 .nil) := rfl
      rw [hs]; exact Sh.own h (by simp [Fo.shp, h2])
    · by_cases h3 : k1 = 7 ∨ k1 = 1
      · have hs : shN 7 nm n (.cons k1 nm1 n1 ks1 .nil) = (k1, nm1, n1, ks1) := by
          unfold shN
          rw [if_neg (by omega), if_neg (by omega), if_neg (by omega), if_neg (by omega), if_neg (by omega), if_pos ⟨.inl rfl, h3⟩]; rfl
        rw [hs]
        refine ⟨hk, by simp only [Tm.fo, Fo.cnt]; omega, fun x hx => by simpa [Fo.names, Tm.fo] using hx, fun log _ i => ?_⟩
        show nodeS log k1 nm1 n1 (saysF log ks1) i = onceS (nodeS log k1 nm1 n1 (saysF log ks1)) i
        rcases h3 with h3 | h3 <;> subst h3
        · exact (once_once _ i).symm
        · exact (once_yes (fun _ => rfl) i).symm
      · have hs : shN 7 nm n (.cons k1 nm1 n1 ks1 .nil) = (7, nm, n, .cons k1 nm1 n1 ks1 .nil) := by
          unfold shN
          rw [if_neg (by omega), if_neg (by omega), if_neg (by omega), if_neg (by omega), if_neg (by omega), if_neg (fun q => h3 q.2)]; rfl
        rw [hs]; exact Sh.own h (by simp [Fo.shp, h2])
    · by_cases h3 : k1 = 8 ∨ k1 = 1
      · have hs : shN 8 nm n (.cons k1 nm1 n1 ks1 .nil) = (k1, nm1, n1, ks1) := by
          unfold shN
          rw [if_neg (by omega), if_neg (by omega), if_neg (by omega), if_neg (by omega), if_neg (by omega), if_pos ⟨.inr rfl, h3⟩]; rfl
        rw [hs]
        refine ⟨hk, by simp only [Tm.fo, Fo.cnt]; omega, fun x hx => by simpa [Fo.names, Tm.fo] using hx, fun log _ i => ?_⟩
        show nodeS log k1 nm1 n1 (saysF log ks1) i = alwS (nodeS log k1 nm1 n1 (saysF log ks1)) i
        rcases h3 with h3 | h3 <;> subst h3
        · exact (alw_alw _ i).symm
        · exact (alw_yes (fun _ => rfl) i).symm
      · have hs : shN 8 nm n (.cons k1 nm1 n1 ks1 .nil) = (8, nm, n, .cons k1 nm1 n1 ks1 .nil) := by
          unfold shN
          rw [if_neg (by omega), if_neg (by omega), if_neg (by omega), if_neg (by omega), if_neg (by omega), if_neg (fun q => h3 q.2)]; rfl
        rw [hs]; exact Sh.own h (by simp [Fo.shp, h2])
  · obtain ⟨k1, nm1, n1, ks1, rfl⟩ := Fo.len_one hc
    simp only [Fo.shp, Bool.and_eq_true] at h2
    have hk : (Tm.fo (k1, nm1, n1, ks1)).shp = true := by simp [Tm.fo, Fo.shp, h2.1.1, h2.1.2]
    subst e
    by_cases h3 : k1 = 1
    · have hs : shN 10 nm n (.cons k1 nm1 n1 ks1 .nil) = (k1, nm1, n1, ks1) := by
        unfold shN
        rw [if_neg (by omega), if_neg (by omega), if_neg (by omega), if_neg (by omega), if_neg (by omega), if_neg (by omega), if_neg (by omega), if_pos ⟨rfl, h3⟩]; rfl
      rw [hs]
      subst h3
      refine ⟨hk, by simp only [Tm.fo, Fo.cnt]; omega, fun x hx => by simpa [Fo.names, Tm.fo] using hx, fun log hd i => ?_⟩
      exact (wit_yes (log := log) (n := n) (a := nodeS log 1 nm1 n1 (saysF log ks1)) (fun _ => rfl) hn hd i).symm
    · have hs : shN 10 nm n (.cons k1 nm1 n1 ks1 .nil) = (10, nm, n, .cons k1 nm1 n1 ks1 .nil) := by
        unfold shN
        rw [if_neg (by omega), if_neg (by omega), if_neg (by omega), if_neg (by omega), if_neg (by omega), if_neg (by omega), if_neg (by omega), if_neg (fun q => h3 q.2)]
      rw [hs]; exact Sh.own h (by simp [Fo.shp, h2])
  · obtain ⟨k1, nm1, n1, ks1, k2, nm2, n2, ks2, rfl⟩ := Fo.len_two hc
    simp only [Fo.shp, Bool.and_eq_true] at h2
    have hk1 : (Tm.fo (k1, nm1, n1, ks1)).shp = true := by simp [Tm.fo, Fo.shp, h2.1.1, h2.1.2]
    have hk2 : (Tm.fo (k2, nm2, n2, ks2)).shp = true := by simp [Tm.fo, Fo.shp, h2.2.1.1, h2.2.1.2]
    have hself : Sh k nm n (.cons k1 nm1 n1 ks1 (.cons k2 nm2 n2 ks2 .nil)) (k, nm, n, .cons k1 nm1 n1 ks1 (.cons k2 nm2 n2 ks2 .nil)) := Sh.own h (by simp [Fo.shp, h2])
    have n1' : ∀ x ∈ (Tm.fo (k1, nm1, n1, ks1)).names, x ∈ (Fo.cons k nm n (.cons k1 nm1 n1 ks1 (.cons k2 nm2 n2 ks2 .nil)) .nil).names := fun x hx => by
      have : x ∈ (if k1 = 2 then [nm1] else []) ++ ks1.names := by simpa [Fo.names, Tm.fo] using hx
      simp only [Fo.names, List.append_nil]
      exact List.mem_append_right _ (List.mem_append_left _ this)
    have n2' : ∀ x ∈ (Tm.fo (k2, nm2, n2, ks2)).names, x ∈ (Fo.cons k nm n (.cons k1 nm1 n1 ks1 (.cons k2 nm2 n2 ks2 .nil)) .nil).names := fun x hx => by
      have : x ∈ (if k2 = 2 then [nm2] else []) ++ ks2.names := by simpa [Fo.names, Tm.fo] using hx
      simp only [Fo.names, List.append_nil]
      exact List.mem_append_right _ (List.mem_append_right _ this)
    have c1 : (Tm.fo (k1, nm1, n1, ks1)).cnt ≤ (Fo.cons k1 nm1 n1 ks1 (.cons k2 nm2 n2 ks2 .nil)).cnt + 1 := by simp only [Tm.fo, Fo.cnt]; omega
    have c2 : (Tm.fo (k2, nm2, n2, ks2)).cnt ≤ (Fo.cons k1 nm1 n1 ks1 (.cons k2 nm2 n2 ks2 .nil)).cnt + 1 := by simp only [Tm.fo, Fo.cnt]; omega
    have hsame : Tm.same (k1, nm1, n1, ks1) (k2, nm2, n2, ks2) = true → (k1, nm1, n1, ks1) = (k2, nm2, n2, ks2) := (Tm.same_iff _ _).1
    rcases e with e | e | e <;> subst e
    · by_cases h3 : k1 = 1
      · have hs : shN 4 nm n (.cons k1 nm1 n1 ks1 (.cons k2 nm2 n2 ks2 .nil)) = (k2, nm2, n2, ks2) := by
          unfold shN
          rw [if_neg (by omega), if_pos ⟨rfl, h3⟩]; rfl
        rw [hs]; subst h3
        refine ⟨hk2, c2, n2', fun log _ i => ?_⟩
        show nodeS log k2 nm2 n2 (saysF log ks2) i = (true && nodeS log k2 nm2 n2 (saysF log ks2) i)
        rw [Bool.true_and]
      by_cases h4 : k2 = 1 ∨ Tm.same (k1, nm1, n1, ks1) (k2, nm2, n2, ks2) = true
      · have hs : shN 4 nm n (.cons k1 nm1 n1 ks1 (.cons k2 nm2 n2 ks2 .nil)) = (k1, nm1, n1, ks1) := by
          unfold shN
          rw [if_neg (by omega), if_neg (fun q => h3 q.2), if_pos ⟨rfl, h4⟩]; rfl
        rw [hs]
        refine ⟨hk1, c1, n1', fun log _ i => ?_⟩
        show nodeS log k1 nm1 n1 (saysF log ks1) i = (nodeS log k1 nm1 n1 (saysF log ks1) i && nodeS log k2 nm2 n2 (saysF log ks2) i)
        rcases h4 with h4 | h4
        · subst h4; rw [node_one, Bool.and_true]
        · have := hsame h4
          injection this with e1 e; injection e with e2 e; injection e with e3 e4
          subst e1 e2 e3 e4
          rw [Bool.and_self]
      · have hs : shN 4 nm n (.cons k1 nm1 n1 ks1 (.cons k2 nm2 n2 ks2 .nil)) = (4, nm, n, .cons k1 nm1 n1 ks1 (.cons k2 nm2 n2 ks2 .nil)) := by
          unfold shN
          rw [if_neg (by omega), if_neg (fun q => h3 q.2), if_neg (fun q => h4 q.2)]; rfl
        rw [hs]; exact hself
    · by_cases h3 : k1 = 1 ∨ k2 = 1
      · have hs : shN 5 nm n (.cons k1 nm1 n1 ks1 (.cons k2 nm2 n2 ks2 .nil)) = yesT := by
          unfold shN
          rw [if_neg (by omega), if_neg (by omega), if_neg (by omega), if_pos ⟨rfl, h3⟩]
        rw [hs]
        refine ⟨by decide, by show 0 + 1 + 0 ≤ _; omega, fun x hx => by simp [yesT, Tm.fo, Fo.names] at hx, fun log _ i => ?_⟩
        show true = (nodeS log k1 nm1 n1 (saysF log ks1) i || nodeS log k2 nm2 n2 (saysF log ks2) i)
        rcases h3 with h3 | h3 <;> subst h3
        · rw [node_one, Bool.true_or]
        · rw [node_one log nm2, Bool.or_true]
      by_cases h4 : Tm.same (k1, nm1, n1, ks1) (k2, nm2, n2, ks2) = true
      · have hs : shN 5 nm n (.cons k1 nm1 n1 ks1 (.cons k2 nm2 n2 ks2 .nil)) = (k1, nm1, n1, ks1) := by
          unfold shN
          rw [if_neg (by omega), if_neg (by omega), if_neg (by omega), if_neg (fun q => h3 q.2), if_pos ⟨rfl, h4⟩]; rfl
        rw [hs]
        refine ⟨hk1, c1, n1', fun log _ i => ?_⟩
        show nodeS log k1 nm1 n1 (saysF log ks1) i = (nodeS log k1 nm1 n1 (saysF log ks1) i || nodeS log k2 nm2 n2 (saysF log ks2) i)
        have := hsame h4
        injection this with e1 e; injection e with e2 e; injection e with e3 e4
        subst e1 e2 e3 e4
        rw [Bool.or_self]
      · have hs : shN 5 nm n (.cons k1 nm1 n1 ks1 (.cons k2 nm2 n2 ks2 .nil)) = (5, nm, n, .cons k1 nm1 n1 ks1 (.cons k2 nm2 n2 ks2 .nil)) := by
          unfold shN
          rw [if_neg (by omega), if_neg (by omega), if_neg (by omega), if_neg (fun q => h3 q.2), if_neg (fun q => h4 q.2)]; rfl
        rw [hs]; exact hself
    · by_cases h3 : k2 = 1
      · have hs : shN 9 nm n (.cons k1 nm1 n1 ks1 (.cons k2 nm2 n2 ks2 .nil)) = (k2, nm2, n2, ks2) := by
          unfold shN
          rw [if_neg (by omega), if_neg (by omega), if_neg (by omega), if_neg (by omega), if_neg (by omega), if_neg (by omega), if_pos ⟨rfl, h3⟩]; rfl
        rw [hs]; subst h3
        refine ⟨hk2, c2, n2', fun log _ i => ?_⟩
        exact (sin_yes (a := nodeS log k1 nm1 n1 (saysF log ks1)) (b := nodeS log 1 nm2 n2 (saysF log ks2)) (fun _ => rfl) i).symm
      · have hs : shN 9 nm n (.cons k1 nm1 n1 ks1 (.cons k2 nm2 n2 ks2 .nil)) = (9, nm, n, .cons k1 nm1 n1 ks1 (.cons k2 nm2 n2 ks2 .nil)) := by
          unfold shN
          rw [if_neg (by omega), if_neg (by omega), if_neg (by omega), if_neg (by omega), if_neg (by omega), if_neg (by omega), if_neg (fun q => h3 q.2)]; rfl
        rw [hs]; exact hself
theorem saysF_len (log : List Ev) : ∀ (f : Fo), (saysF log f).length = f.len
  | .nil => rfl
  | .cons _ _ _ _ r => by simp [saysF, Fo.len, saysF_len log r]
theorem cons_parts (k : Int) (nm : List UInt8) (n : Int) (ks r : Fo) : (Fo.cons k nm n ks r).shp = (Fo.shp (.cons k nm n ks .nil) && r.shp) ∧ (Fo.cons k nm n ks r).cnt = Fo.cnt (.cons k nm n ks .nil) + r.cnt ∧ (Fo.cons k nm n ks r).names = Fo.names (.cons k nm n ks .nil) ++ r.names := by
  simp [Fo.shp, Fo.cnt, Fo.names]
/-- The shorter terms: as many, each valid, not longer, with no other marks, and they say the same. -/
theorem shorts_ok : ∀ (f : Fo), f.shp = true → f.shorts.shp = true ∧ f.shorts.len = f.len ∧ f.shorts.cnt ≤ f.cnt ∧ (∀ x ∈ f.shorts.names, x ∈ f.names) ∧ ∀ log, (∀ i, 0 ≤ dayAt log i) → ∀ i q, (saysF log f.shorts).getD q noS i = (saysF log f).getD q noS i
  | .nil, _ => ⟨rfl, rfl, Nat.le_refl _, fun _ h => h, fun _ _ _ _ => rfl⟩
  | .cons k nm n ks r, h => by
    simp only [Fo.shp, Bool.and_eq_true] at h
    obtain ⟨a1, a2, a3, a4, a5⟩ := shorts_ok ks h.1.2
    obtain ⟨b1, b2, b3, b4, b5⟩ := shorts_ok r h.2
    have hs := sh_ok (k := k) (nm := nm) (n := n) (ks := ks.shorts) (by rw [a2]; exact h.1.1) a1
    obtain ⟨c1, c2, c3⟩ := cons_parts (shN k nm n ks.shorts).1 (shN k nm n ks.shorts).2.1 (shN k nm n ks.shorts).2.2.1 (shN k nm n ks.shorts).2.2.2 r.shorts
    refine ⟨?_, by simp [Fo.shorts, Fo.len, b2], ?_, ?_, ?_⟩
    · rw [Fo.shorts, c1, b1, Bool.and_true]; exact hs.shp
    · rw [Fo.shorts, c2]
      have : Fo.cnt (.cons (shN k nm n ks.shorts).1 (shN k nm n ks.shorts).2.1 (shN k nm n ks.shorts).2.2.1 (shN k nm n ks.shorts).2.2.2 .nil) ≤ ks.shorts.cnt + 1 := hs.cnt
      simp only [Fo.cnt] at this ⊢
      omega
    · intro x hx
      rw [Fo.shorts, c3, List.mem_append] at hx
      rcases hx with hx | hx
      · have := hs.names x hx
        simp only [Fo.names, List.mem_append, List.append_nil] at this ⊢
        rcases this with q | q
        · exact .inl (.inl q)
        · exact .inl (.inr (a4 x q))
      · simp only [Fo.names, List.mem_append]
        exact .inr (b4 x hx)
    · intro log hd i q
      cases q with
      | zero =>
        have e1 := hs.says log hd i
        have e2 := node_agr (l := log) (m := log) (k := k) (nm := nm) (n := n) (u := saysF log ks.shorts) (v := saysF log ks) (i := i) (fun _ _ => rfl) (fun _ _ _ => rfl) ⟨by rw [saysF_len, saysF_len, a2], fun q j _ => a5 log hd j q⟩ i (Nat.le_refl _)
        exact e1.trans e2
      | succ q => exact b5 log hd i q
theorem short_ok (t : Tm) (h : t.ok = true) : t.short.ok = true ∧ t.short.fo.cnt ≤ t.fo.cnt ∧ (∀ x ∈ t.short.fo.names, x ∈ t.fo.names) ∧ ∀ log, (∀ i, 0 ≤ dayAt log i) → ∀ i, t.short.says log i = t.says log i := by
  simp only [Tm.ok, Bool.and_eq_true, decide_eq_true_eq] at h
  obtain ⟨h1, h2, h3, h4, h5⟩ := shorts_ok t.fo h.1
  refine ⟨?_, h3, h4, fun log hd i => h5 log hd i 0⟩
  simp only [Tm.ok, Bool.and_eq_true, decide_eq_true_eq]
  exact ⟨h1, Nat.le_trans h3 h.2⟩
end Go.Proofs.YtobpacebpiabcaaGreatDoor

namespace Go.Proofs.YtobpacebpiabcaaGreatDoor
open Go.Lib

def oneT (k : Int) (n : Int) (a : Tm) : Tm := (k, [], n, a.fo)
def twoT (k : Int) (a b : Tm) : Tm := (k, [], 0, .cons a.1 a.2.1 a.2.2.1 a.2.2.2 b.fo)
/-! The laws. -/
end Go.Proofs.YtobpacebpiabcaaGreatDoor

namespace Go.Proofs.YtobpacebpiabcaaGreatDoor
open Go.Lib

/-- Letters and digits. -/
def ldB (c : UInt8) : Bool := letB c || digB c
/-- The term whose text is s, if there is one. -/
noncomputable def parseT (s : List UInt8) : Option Tm := by
  classical
  exact if h : ∃ t : Tm, t.ok = true ∧ t.tx = s then some h.choose else none
theorem parseT_some {s : List UInt8} {t : Tm} : parseT s = some t ↔ t.ok = true ∧ t.tx = s := by
  unfold parseT
  by_cases h : ∃ t : Tm, t.ok = true ∧ t.tx = s
  · rw [dif_pos h]
    have hc := h.choose_spec
    constructor
    · intro e
      injection e with e
      rw [← e]; exact hc
    · rintro ⟨h1, h2⟩
      rw [text_inj hc.1 h1 (hc.2.trans h2.symm)]
  · rw [dif_neg h]
    exact ⟨fun e => (by cases e), fun e => absurd ⟨t, e⟩ h⟩
theorem parseT_none {s : List UInt8} : parseT s = none ↔ ¬ ∃ t : Tm, t.ok = true ∧ t.tx = s := by
  constructor
  · rintro h ⟨t, ht⟩
    rw [parseT_some.2 ht] at h
    cases h
  · intro h
    cases hp : parseT s with
    | none => rfl
    | some t => exact absurd ⟨t, parseT_some.1 hp⟩ h
end Go.Proofs.YtobpacebpiabcaaGreatDoor

namespace Go.Proofs.YtobpacebpiabcaaGreatDoor
open Go.Lib

/-- All bytes are below 128. -/
def ascii (l : List UInt8) : Bool := l.all (fun c => decide (c.toNat < 128))
theorem ascii_iff {l : List UInt8} : ascii l = true ↔ ∀ c ∈ l, c.toNat < 128 := by simp [ascii]
theorem ascii_append {l m : List UInt8} (h : ascii l = true) (k : ascii m = true) : ascii (l ++ m) = true := by
  rw [ascii_iff] at *
  intro c hc
  rcases List.mem_append.1 hc with hc | hc
  · exact h c hc
  · exact k c hc
/-- The words of a text. -/
def fieldsX (l : List UInt8) : List (List UInt8) := if ascii l then fields l else fieldsD l
/-- What the program's Parse gives. -/
def progP (s : List UInt8) : Option Tm := match rdv 64 (fieldsX (apart s)) with
  | some x => if x.1.ok && decide (x.1.tx = s) then some x.1 else none
  | none => none
theorem rep1_ascii (c : UInt8) (new : List UInt8) (hn : ascii new = true) : ∀ (l : List UInt8), ascii l = true → ascii (rep1 c new l) = true
  | [], _ => rfl
  | b :: l, h => by
    rw [ascii_iff] at h
    have h1 := rep1_ascii c new hn l (ascii_iff.2 fun x hx => h x (by simp [hx]))
    rw [rep1]
    refine ascii_append ?_ h1
    by_cases e : b = c
    · rw [if_pos e]; exact hn
    · rw [if_neg e]; exact ascii_iff.2 fun x hx => h x (by simp at hx; simp [hx])
theorem apart_ascii {l : List UInt8} (h : ascii l = true) : ascii (apart l) = true := rep1_ascii _ _ (by decide) _ (rep1_ascii _ _ (by decide) _ h)
theorem wb_ascii {l : List UInt8} (h : ∀ c ∈ l, wb c) : ascii l = true := ascii_iff.2 fun c hc => (h c hc).2.2.2
theorem getD_ascii {l : List (List UInt8)} (h : ∀ t ∈ l, ascii t = true) (i : Nat) : ascii (l.getD i []) = true := by
  by_cases hi : i < l.length
  · rw [List.getD_eq_getElem?_getD, List.getElem?_eq_getElem hi]; exact h _ (List.getElem_mem hi)
  · rw [List.getD_eq_getElem?_getD, List.getElem?_eq_none (by omega)]; rfl
theorem node_ascii {k : Int} {nm : List UInt8} {n : Int} {c : Nat} {l : List (List UInt8)} (h : okN k nm n c = true) (hl : ∀ t ∈ l, ascii t = true) : ascii (nodeT k nm n l) = true := by
  have h0 := getD_ascii hl 0
  have h1 := getD_ascii hl 1
  unfold okN at h
  simp only [Bool.and_eq_true] at h
  unfold nodeT
  split
  · rename_i e
    have := h.1.2
    rw [if_pos e] at this
    exact wb_ascii (name_wb this).2
  repeat' split
  · exact ascii_append (by decide) h0
  · exact ascii_append (by decide) h0
  · exact ascii_append (by decide) h0
  · exact ascii_append (by decide) h0
  · rename_i e
    have := h.2
    rw [if_pos e] at this
    simp at this
    exact ascii_append (ascii_append (ascii_append (by decide) (wb_ascii (itoa_wb this.1).2)) (by decide)) h0
  · exact ascii_append (ascii_append (ascii_append (ascii_append (ascii_append (ascii_append (by decide) h0) (by decide)) (by decide)) (by decide)) h1) (by decide)
  · exact ascii_append (ascii_append (ascii_append (ascii_append (ascii_append (ascii_append (by decide) h0) (by decide)) (by decide)) (by decide)) h1) (by decide)
  · exact ascii_append (ascii_append (ascii_append (ascii_append (ascii_append (ascii_append (by decide) h0) (by decide)) (by decide)) (by decide)) h1) (by decide)
  · decide
theorem txts_ascii : ∀ (f : Fo), f.shp = true → ∀ t ∈ f.txts, ascii t = true
  | .nil, _, t, h => by simp [Fo.txts] at h
  | .cons k nm n ks r, h, t, ht => by
    simp only [Fo.shp, Bool.and_eq_true] at h
    simp only [Fo.txts, List.mem_cons] at ht
    rcases ht with rfl | ht
    · exact node_ascii h.1.1 (txts_ascii ks h.1.2)
    · exact txts_ascii r h.2 t ht
theorem Tm.ok_shp {t : Tm} (h : t.ok = true) : okN t.1 t.2.1 t.2.2.1 t.2.2.2.len = true ∧ t.2.2.2.shp = true ∧ t.2.2.2.cnt + 1 ≤ 64 := by
  unfold Tm.ok Tm.fo at h
  simp only [Fo.shp, Fo.cnt, Bool.and_eq_true, Bool.and_true, Nat.add_zero] at h
  exact ⟨h.1.1, h.1.2, of_decide_eq_true h.2⟩
theorem tx_ascii {t : Tm} (h : t.ok = true) : ascii t.tx = true := node_ascii (Tm.ok_shp h).1 (txts_ascii _ (Tm.ok_shp h).2.1)
theorem progP_eq (s : List UInt8) : progP s = parseT s := by
  cases hp : parseT s with
  | some t =>
    obtain ⟨h1, h2⟩ := parseT_some.1 hp
    unfold progP
    rw [show fieldsX (apart s) = fields (apart s) by rw [fieldsX, if_pos (by rw [← h2]; exact apart_ascii (tx_ascii h1))], ← h2, read_text t h1]
    simp [h1]
  | none =>
    have hn := parseT_none.1 hp
    unfold progP
    split
    · rename_i x hx
      split
      · rename_i h
        simp only [Bool.and_eq_true, decide_eq_true_eq] at h
        exact absurd ⟨x.1, h.1, h.2⟩ hn
      · rfl
    · rfl
/-! How long texts are. -/
def sumL (l : List (List UInt8)) : Nat := (l.map List.length).sum
theorem sumL_get : ∀ (l : List (List UInt8)), (l.getD 0 []).length + (l.getD 1 []).length ≤ sumL l
  | [] => by simp [sumL]
  | [a] => by simp [sumL]
  | a :: b :: l => by simp [sumL]
theorem itoa_len {n : Int} (h : 0 ≤ n) (h2 : n ≤ 1000000) : (itoa n).length ≤ 7 := by
  obtain ⟨u, rfl⟩ := Int.eq_ofNat_of_zero_le h
  have := dec_len 6 u (by omega)
  have e : itoa (u : Int) = decDigits u := by unfold itoa; simp
  rw [e]; omega
theorem node_len {k : Int} {nm : List UInt8} {n : Int} {c : Nat} {l : List (List UInt8)} (h : okN k nm n c = true) : (nodeT k nm n l).length ≤ 16 + sumL l := by
  have hs := sumL_get l
  unfold okN at h
  simp only [Bool.and_eq_true] at h
  unfold nodeT
  split
  · rename_i e
    have := h.1.2
    rw [if_pos e] at this
    simp only [isName, Bool.and_eq_true, decide_eq_true_eq] at this
    omega
  repeat' split
  all_goals (try (simp only [List.length_append, show wNot.length = 3 from rfl, show sp.length = 1 from rfl, show wPrev.length = 4 from rfl, show wOnce.length = 4 from rfl, show wAlways.length = 6 from rfl, show wAnd.length = 3 from rfl, show wOr.length = 2 from rfl, show wSince.length = 5 from rfl, show wTrue.length = 4 from rfl, List.length_cons, List.length_nil]; omega))
  rename_i e
  have := h.2
  rw [if_pos e] at this
  simp only [Bool.and_eq_true, decide_eq_true_eq] at this
  have hi := itoa_len this.1 this.2
  simp only [List.length_append, show wWithin.length = 6 from rfl, show sp.length = 1 from rfl]
  omega
theorem txts_len : ∀ (f : Fo), f.shp = true → sumL f.txts ≤ 16 * f.cnt
  | .nil, _ => by simp [Fo.txts, sumL]
  | .cons k nm n ks r, h => by
    simp only [Fo.shp, Bool.and_eq_true] at h
    have h1 := node_len (l := ks.txts) h.1.1
    have h2 := txts_len ks h.1.2
    have h3 := txts_len r h.2
    simp only [Fo.txts, sumL, List.map_cons, List.sum_cons, Fo.cnt] at *
    omega
theorem tx_len {t : Tm} (h : t.fo.shp = true) : t.tx.length ≤ 16 * t.fo.cnt := by
  have := txts_len t.fo h
  simp only [Tm.fo, Fo.txts, sumL, List.map_cons, List.map_nil, List.sum_cons, List.sum_nil] at this
  exact this

/-! How long words are. -/
theorem fieldsGo_len : ∀ (l cur : List UInt8) , (fieldsGo cur l).length ≤ 1 + l.length ∧ ∀ w ∈ fieldsGo cur l, w.length ≤ cur.length + l.length
  | [], cur => by
    rw [fieldsGo]
    split <;> simp
  | b :: l, cur => by
    rw [fieldsGo]
    split
    · have h1 := fieldsGo_len l []
      split
      · exact ⟨by simp; omega, fun w hw => by have := h1.2 w hw; simp at this ⊢; omega⟩
      · refine ⟨by simp; omega, fun w hw => ?_⟩
        rcases List.mem_cons.1 hw with rfl | hw
        · simp
        · have := h1.2 w hw; simp at this ⊢; omega
    · have h1 := fieldsGo_len l (cur ++ [b])
      exact ⟨by simp; omega, fun w hw => by have := h1.2 w hw; simp at this ⊢; omega⟩
theorem fieldsGoD_len : ∀ (f : Nat) (l cur : List UInt8), (fieldsGoD f cur l).length ≤ 1 + f ∧ ∀ w ∈ fieldsGoD f cur l, w.length ≤ cur.length + l.length
  | 0, l, cur => by
    rw [fieldsGoD]
    split
    · simp
    · refine ⟨by simp, fun w hw => ?_⟩
      simp at hw; rw [hw]; omega
  | f + 1, l, cur => by
    rw [fieldsGoD]
    split
    · split
      · simp
      · refine ⟨by simp, fun w hw => ?_⟩
        simp at hw; rw [hw]; omega
    split
    · have h1 := fieldsGoD_len f (l.drop (decodeL l).2) []
      refine ⟨?_, fun w hw => ?_⟩
      · rw [List.length_append]
        split <;> simp <;> omega
      · rcases List.mem_append.1 hw with hw | hw
        · split at hw
          · cases hw
          · simp at hw; rw [hw]; omega
        · have := h1.2 w hw; simp at this; omega
    · have h1 := fieldsGoD_len f (l.drop (decodeL l).2) (cur ++ l.take (decodeL l).2)
      exact ⟨by omega, fun w hw => by have := h1.2 w hw; simp at this; omega⟩
theorem fieldsX_len (l : List UInt8) : (fieldsX l).length ≤ 2 + l.length ∧ ∀ w ∈ fieldsX l, w.length ≤ l.length := by
  unfold fieldsX fields fieldsD
  split
  · have := fieldsGo_len l []
    exact ⟨by omega, fun w hw => by have := this.2 w hw; simpa using this⟩
  · have := fieldsGoD_len (l.length + 1) l []
    exact ⟨by omega, fun w hw => by have := this.2 w hw; simpa using this⟩
theorem rep1_len_le (c : UInt8) (new : List UInt8) (hn : new.length ≤ 2) : ∀ (l : List UInt8), (rep1 c new l).length ≤ 2 * l.length
  | [] => by simp [rep1]
  | b :: l => by
    have := rep1_len_le c new hn l
    rw [rep1, List.length_append, List.length_cons]
    split <;> simp <;> omega
theorem apart_len (l : List UInt8) : (apart l).length ≤ 4 * l.length := by
  have h1 := rep1_len_le 41 [32, 41] (by simp) (rep1 40 [40, 32] l)
  have h2 := rep1_len_le 40 [40, 32] (by simp) l
  unfold apart
  omega
end Go.Proofs.YtobpacebpiabcaaGreatDoor
