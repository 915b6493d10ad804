/- Exact finds the best train: plain lemmas, no program in sight. -/
import Derived.Test.YtklngjjokbhfpaaGreatPkHa
import Derived.Test.YtklngjjokbhfpaaGreatVm
namespace Go.Proofs.YtklngjjokbhfpaaGreat
open Go.RowKit

/-- No element is below the one ahead of it, by recursion. -/
theorem upL_cons (x y : Int) (r : List Int) : UpL (x :: y :: r) ↔ x ≤ y ∧ UpL (y :: r) := by
  constructor
  · intro h
    refine ⟨by simpa using h 0 (by simp), fun k hk => ?_⟩
    have := h (k + 1) (by simp at hk ⊢; omega)
    simpa using this
  · rintro ⟨h1, h2⟩ k hk
    cases k with
    | zero => simpa using h1
    | succ k => have := h2 k (by simp at hk ⊢; omega); simpa using this
theorem downL_cons (x y : Int) (r : List Int) : DownL (x :: y :: r) ↔ y ≤ x ∧ DownL (y :: r) := by
  constructor
  · intro h
    refine ⟨by simpa using h 0 (by simp), fun k hk => ?_⟩
    have := h (k + 1) (by simp at hk ⊢; omega)
    simpa using this
  · rintro ⟨h1, h2⟩ k hk
    cases k with
    | zero => simpa using h1
    | succ k => have := h2 k (by simp at hk ⊢; omega); simpa using this
theorem upL_pair : ∀ (l : List Int), UpL l ↔ l.Pairwise (· ≤ ·)
  | [] => by simp [UpL]
  | [x] => by simp [UpL]
  | x :: y :: r => by
    rw [upL_cons, upL_pair (y :: r), List.pairwise_cons (a := x)]
    constructor
    · rintro ⟨h1, h2⟩
      refine ⟨fun a ha => ?_, h2⟩
      simp only [List.mem_cons] at ha
      rcases ha with rfl | ha
      · exact h1
      · exact Int.le_trans h1 ((List.pairwise_cons.1 h2).1 a ha)
    · rintro ⟨h1, h2⟩
      exact ⟨h1 y (by simp), h2⟩
theorem downL_pair : ∀ (l : List Int), DownL l ↔ l.Pairwise (fun a b => b ≤ a)
  | [] => by simp [DownL]
  | [x] => by simp [DownL]
  | x :: y :: r => by
    rw [downL_cons, downL_pair (y :: r), List.pairwise_cons (a := x)]
    constructor
    · rintro ⟨h1, h2⟩
      refine ⟨fun a ha => ?_, h2⟩
      simp only [List.mem_cons] at ha
      rcases ha with rfl | ha
      · exact h1
      · exact Int.le_trans ((List.pairwise_cons.1 h2).1 a ha) h1
    · rintro ⟨h1, h2⟩
      exact ⟨h1 y (by simp), h2⟩
theorem rises_pair : ∀ (l : List Int), Rises l ↔ l.Pairwise (· ≤ ·)
  | [] => by simp [Rises]
  | [x] => by simp [Rises]
  | x :: y :: r => by
    rw [show Rises (x :: y :: r) ↔ x ≤ y ∧ Rises (y :: r) from Iff.rfl, rises_pair (y :: r), List.pairwise_cons (a := x)]
    constructor
    · rintro ⟨h1, h2⟩
      refine ⟨fun a ha => ?_, h2⟩
      simp only [List.mem_cons] at ha
      rcases ha with rfl | ha
      · exact h1
      · exact Int.le_trans h1 ((List.pairwise_cons.1 h2).1 a ha)
    · rintro ⟨h1, h2⟩
      exact ⟨h1 y (by simp), h2⟩

/-- Where an element goes. -/
theorem posL_low (x : Int) (p : List Int) : ∀ j, posL x p j = 0 ∨ p.getD (posL x p j - 1) 0 ≤ x
  | 0 => .inl rfl
  | j + 1 => by
    unfold posL
    split
    · exact posL_low x p j
    · right; rw [Nat.add_sub_cancel]; omega
theorem posL_high (x : Int) (p : List Int) : ∀ j k, posL x p j ≤ k → k < j → x < p.getD k 0
  | 0, k, _, h => by omega
  | j + 1, k, h1, h2 => by
    unfold posL at h1
    split at h1
    · rename_i hx
      rcases Nat.lt_or_ge k j with h | h
      · exact posL_high x p j k h1 h
      · have : k = j := by omega
        subst this; exact hx
    · omega
theorem insL_pair (x : Int) (p : List Int) (h : p.Pairwise (· ≤ ·)) : (insL x p).Pairwise (· ≤ ·) := by
  have hle := posL_le x p p.length
  have h1 : ∀ a ∈ p.take (posL x p p.length), a ≤ x := by
    intro a ha
    rcases posL_low x p p.length with h0 | h0
    · rw [h0] at ha; simp at ha
    · obtain ⟨k, hk, rfl⟩ := List.mem_iff_getElem.1 ha
      have hk1 : k < posL x p p.length := by rw [List.length_take] at hk; omega
      rw [List.getElem_take]
      have hb : posL x p p.length - 1 < p.length := by omega
      rw [List.getD_eq_getElem?_getD, List.getElem?_eq_getElem hb, Option.getD_some] at h0
      rcases Nat.lt_or_ge k (posL x p p.length - 1) with h2 | h2
      · exact Int.le_trans ((List.pairwise_iff_getElem.1 h) k _ (by omega) hb h2) h0
      · have : k = posL x p p.length - 1 := by omega
        subst this; exact h0
  have h2 : ∀ b ∈ p.drop (posL x p p.length), x ≤ b := by
    intro b hb
    obtain ⟨k, hk, rfl⟩ := List.mem_iff_getElem.1 hb
    rw [List.length_drop] at hk
    rw [List.getElem_drop]
    have := posL_high x p p.length (posL x p p.length + k) (by omega) (by omega)
    rw [List.getD_eq_getElem?_getD, List.getElem?_eq_getElem (by omega), Option.getD_some] at this
    omega
  unfold insL
  rw [List.pairwise_append]
  refine ⟨h.sublist (List.take_sublist _ _), List.pairwise_cons.2 ⟨h2, h.sublist (List.drop_sublist _ _)⟩, fun a ha b hb => ?_⟩
  simp only [List.mem_cons] at hb
  rcases hb with rfl | hb
  · exact h1 a ha
  · exact Int.le_trans (h1 a ha) (h2 b hb)
theorem isortL_pair (l : List Int) : (isortL l).Pairwise (· ≤ ·) := by
  have key : ∀ (l p : List Int), p.Pairwise (· ≤ ·) → (l.foldl (fun p x => insL x p) p).Pairwise (· ≤ ·) := by
    intro l
    induction l with
    | nil => intro p h; exact h
    | cons x l ih => intro p h; exact ih _ (insL_pair x p h)
  exact key l [] List.Pairwise.nil
theorem posL_end (x : Int) (p : List Int) (h : ∀ a ∈ p, a ≤ x) : posL x p p.length = p.length := by
  cases hp : p.length with
  | zero => rfl
  | succ j =>
    unfold posL
    have hj : j < p.length := by omega
    rw [List.getD_eq_getElem?_getD, List.getElem?_eq_getElem hj, Option.getD_some, if_neg (by have := h _ (List.getElem_mem hj); omega)]
theorem insL_end (x : Int) (p : List Int) (h : ∀ a ∈ p, a ≤ x) : insL x p = p ++ [x] := by
  unfold insL
  rw [posL_end x p h, List.take_length, List.drop_length]
theorem isortL_id (l : List Int) (h : l.Pairwise (· ≤ ·)) : isortL l = l := by
  have key : ∀ (l p : List Int), (p ++ l).Pairwise (· ≤ ·) → l.foldl (fun p x => insL x p) p = p ++ l := by
    intro l
    induction l with
    | nil => intro p _; simp
    | cons x l ih =>
      intro p h
      have h1 : ∀ a ∈ p, a ≤ x := fun a ha => (List.pairwise_append.1 h).2.2 a ha x (by simp)
      rw [List.foldl_cons, insL_end x p h1, ih (p ++ [x]) (by simpa using h)]
      simp
  exact key l [] (by simpa using h)
theorem prodL_app (a b : List Int) : prodL (a ++ b) = prodL a * prodL b := by
  unfold prodL
  rw [List.foldl_append, foldl_mul]; rfl
theorem prodL_ins (x : Int) (p : List Int) : prodL (insL x p) = prodL p * x := by
  unfold insL
  rw [prodL_app, prodL_cons]
  conv => rhs; rw [← List.take_append_drop (posL x p p.length) p, prodL_app]
  rw [Int.mul_assoc, Int.mul_comm x]
theorem prodL_isort (l : List Int) : prodL (isortL l) = prodL l := by
  have key : ∀ (l p : List Int), prodL (l.foldl (fun p x => insL x p) p) = prodL p * prodL l := by
    intro l
    induction l with
    | nil => intro p; simp [prodL]
    | cons x l ih => intro p; rw [List.foldl_cons, ih, prodL_ins, prodL_cons, Int.mul_assoc]
  rw [isortL, key]; simp [prodL]
theorem prodL_rev (l : List Int) : prodL l.reverse = prodL l := by
  induction l with
  | nil => rfl
  | cons x l ih => rw [List.reverse_cons, prodL_snoc, ih, prodL_cons, Int.mul_comm]

/-- The order of trains. -/
theorem sgn_lt0 {x : Int} : sgn x < 0 ↔ x < 0 := by
  unfold sgn
  split
  · omega
  · split <;> omega
theorem sgn_eq0 {x : Int} : sgn x = 0 ↔ x = 0 := by
  unfold sgn
  split
  · omega
  · split <;> omega
theorem cmpL_self : ∀ l : List Int, cmpL l l = 0
  | [] => rfl
  | x :: r => by simp [cmpL, sgn, cmpL_self r]
theorem cmpL_eq : ∀ {a b : List Int}, cmpL a b = 0 → a = b
  | [], [], _ => rfl
  | [], _ :: _, h => by simp [cmpL] at h
  | _ :: _, [], h => by simp [cmpL] at h
  | x :: r, y :: s, h => by
    simp only [cmpL] at h
    split at h
    · rename_i h1
      have := sgn_eq0.1 h1
      rw [cmpL_eq h, show x = y by omega]
    · rename_i h1; exact absurd h h1
theorem cmpL_lt {x y : Int} {r s : List Int} : cmpL (x :: r) (y :: s) < 0 ↔ x < y ∨ x = y ∧ cmpL r s < 0 := by
  simp only [cmpL]
  split
  · rename_i h1
    have := sgn_eq0.1 h1
    constructor
    · intro h; exact .inr ⟨by omega, h⟩
    · rintro (h | h)
      · omega
      · exact h.2
  · rename_i h1
    have h2 : x - y ≠ 0 := fun h => h1 (sgn_eq0.2 h)
    rw [sgn_lt0]
    constructor
    · intro h; exact .inl (by omega)
    · rintro (h | h) <;> omega
theorem cmpL_trans : ∀ {a b c : List Int}, cmpL a b < 0 → cmpL b c < 0 → cmpL a c < 0
  | [], [], _, h, _ => by simp [cmpL] at h
  | [], _ :: _, [], _, h => by simp [cmpL] at h
  | [], _ :: _, _ :: _, _, _ => by simp [cmpL]
  | _ :: _, [], _, h, _ => by simp [cmpL] at h
  | _ :: _, _ :: _, [], _, h => by simp [cmpL] at h
  | x :: r, y :: s, z :: t, h1, h2 => by
    rw [cmpL_lt] at h1 h2 ⊢
    rcases h1 with h1 | ⟨h1, h3⟩ <;> rcases h2 with h2 | ⟨h2, h4⟩
    · exact .inl (by omega)
    · exact .inl (by omega)
    · exact .inl (by omega)
    · exact .inr ⟨by omega, cmpL_trans h3 h4⟩
theorem cmpL_ge : ∀ (a b : List Int), cmpL a b < 0 ∨ cmpL a b = 0 ∨ cmpL b a < 0
  | [], [] => by simp [cmpL]
  | [], _ :: _ => by simp [cmpL]
  | _ :: _, [] => by simp [cmpL]
  | x :: r, y :: s => by
    rw [cmpL_lt, cmpL_lt]
    rcases Int.lt_trichotomy x y with h | h | h
    · exact .inl (.inl h)
    · subst h
      rcases cmpL_ge r s with h | h | h
      · exact .inl (.inr ⟨rfl, h⟩)
      · exact .inr (.inl (by simp [cmpL, sgn, h]))
      · exact .inr (.inr (.inr ⟨rfl, h⟩))
    · exact .inr (.inr (.inl h))
theorem betterM_lt {ws ps us vs : List Int} : betterM ws ps us vs < 0 ↔ ws.length < us.length ∨ ws.length = us.length ∧ (sumL (ws ++ ps) < sumL (us ++ vs) ∨ sumL (ws ++ ps) = sumL (us ++ vs) ∧ (cmpL ws us < 0 ∨ ws = us ∧ cmpL ps vs < 0)) := by
  have hz : ∀ (x : Int) (r : List Int), orL (x :: r) < 0 ↔ x < 0 ∨ x = 0 ∧ orL r < 0 := fun x r => by
    simp only [orL]
    split
    · rename_i h; subst h; simp
    · rename_i h
      constructor
      · exact fun h => .inl h
      · rintro (h1 | h1)
        · exact h1
        · exact absurd h1.1 h
  have h0 : ¬ orL [] < 0 := by simp [orL]
  unfold betterM
  rw [hz, hz, hz, hz, sgn_lt0, sgn_eq0, sgn_lt0, sgn_eq0]
  constructor
  · rintro (h | ⟨h, h1 | ⟨h1, h2 | ⟨h2, h3 | h3⟩⟩⟩)
    · exact .inl (by omega)
    · exact .inr ⟨by omega, .inl (by omega)⟩
    · exact .inr ⟨by omega, .inr ⟨by omega, .inl h2⟩⟩
    · exact .inr ⟨by omega, .inr ⟨by omega, .inr ⟨cmpL_eq h2, h3⟩⟩⟩
    · exact absurd h3.2 h0
  · rintro (h | ⟨h, h1 | ⟨h1, h2 | ⟨h2, h3⟩⟩⟩)
    · exact .inl (by omega)
    · exact .inr ⟨by omega, .inl (by omega)⟩
    · exact .inr ⟨by omega, .inr ⟨by omega, .inl h2⟩⟩
    · exact .inr ⟨by omega, .inr ⟨by omega, .inr ⟨by rw [h2]; exact cmpL_self _, .inl h3⟩⟩⟩
theorem betterM_trans {a b c d e f : List Int} (h1 : betterM a b c d < 0) (h2 : betterM c d e f < 0) : betterM a b e f < 0 := by
  rw [betterM_lt] at h1 h2 ⊢
  rcases h1 with h1 | ⟨h1, h3 | ⟨h3, h4⟩⟩ <;> rcases h2 with h2 | ⟨h2, h5 | ⟨h5, h6⟩⟩
  · exact .inl (by omega)
  · exact .inl (by omega)
  · exact .inl (by omega)
  · exact .inl (by omega)
  · exact .inr ⟨by omega, .inl (by omega)⟩
  · exact .inr ⟨by omega, .inl (by omega)⟩
  · exact .inl (by omega)
  · exact .inr ⟨by omega, .inl (by omega)⟩
  · refine .inr ⟨by omega, .inr ⟨by omega, ?_⟩⟩
    rcases h4 with h4 | ⟨rfl, h4⟩ <;> rcases h6 with h6 | ⟨rfl, h6⟩
    · exact .inl (cmpL_trans h4 h6)
    · exact .inl h4
    · exact .inl h6
    · exact .inr ⟨rfl, cmpL_trans h4 h6⟩
theorem betterM_self (a b : List Int) : ¬ betterM a b a b < 0 := by
  rw [betterM_lt, cmpL_self, cmpL_self]; simp

/-- The best of some trains. -/
def BestOf (S : Tr → Prop) : Option Tr → Prop
  | none => ∀ t, ¬ S t
  | some b => S b ∧ ∀ t, S t → ¬ betterM t.1 t.2 b.1 b.2 < 0
theorem BestOf.congr {S S' : Tr → Prop} {o : Option Tr} (h : BestOf S o) (he : ∀ t, S t ↔ S' t) : BestOf S' o := by
  rw [show S' = S from funext fun t => propext (he t).symm]; exact h
theorem BestOf.keep {S Q : Tr → Prop} {o : Option Tr} (h : BestOf S o) (hn : ∀ t, ¬ Q t) : BestOf (fun t => S t ∨ Q t) o :=
  h.congr fun t => ⟨.inl, fun k => k.resolve_right (hn t)⟩
theorem BestOf.first {S : Tr → Prop} (h : BestOf S none) (u : Tr) : BestOf (fun t => S t ∨ t = u) (some u) :=
  ⟨.inr rfl, fun t ht => by
    rcases ht with ht | rfl
    · exact absurd ht (h t)
    · exact betterM_self _ _⟩
theorem BestOf.less {S : Tr → Prop} {b : Tr} (h : BestOf S (some b)) (u : Tr) (hu : betterM u.1 u.2 b.1 b.2 < 0) : BestOf (fun t => S t ∨ t = u) (some u) :=
  ⟨.inr rfl, fun t ht => by
    rcases ht with ht | rfl
    · exact fun h1 => h.2 t ht (betterM_trans h1 hu)
    · exact betterM_self _ _⟩
theorem BestOf.more {S : Tr → Prop} {b : Tr} (h : BestOf S (some b)) (u : Tr) (hu : ¬ betterM u.1 u.2 b.1 b.2 < 0) : BestOf (fun t => S t ∨ t = u) (some b) :=
  ⟨.inl h.1, fun t ht => by
    rcases ht with ht | rfl
    · exact h.2 t ht
    · exact hu⟩
def minT (o : Option Tr) (ws ps : List Int) : Option Tr := match o with
  | none => some (ws, ps)
  | some b => if betterM ws ps b.1 b.2 < 0 then some (ws, ps) else o
theorem BestOf.min {S : Tr → Prop} {o : Option Tr} (h : BestOf S o) (ws ps : List Int) : BestOf (fun t => S t ∨ t = (ws, ps)) (minT o ws ps) := by
  cases o with
  | none => exact h.first _
  | some b =>
    unfold minT
    dsimp only
    split
    · rename_i hb; exact h.less (ws, ps) hb
    · rename_i hb; exact h.more (ws, ps) hb
theorem BestOf.fold {α : Type} {f : Option Tr → α → Option Tr} {Q : α → Tr → Prop} (hf : ∀ S o a, BestOf S o → BestOf (fun t => S t ∨ Q a t) (f o a)) :
    ∀ (L : List α) (S : Tr → Prop) (o : Option Tr), BestOf S o → BestOf (fun t => S t ∨ ∃ a ∈ L, Q a t) (L.foldl f o)
  | [], S, o, h => h.congr fun t => by simp
  | a :: L, S, o, h => by
    have := BestOf.fold hf L _ _ (hf S o a h)
    exact this.congr fun t => by simp [or_assoc]

/-- The trains that Exact tries for some pinions and some wheels. -/
def Q2 (wl wh whole : Int) (pins : List Int) (l : List Int) (t : Tr) : Prop :=
  (whole % prodL l = 0 ∧ wl ≤ whole / prodL l ∧ whole / prodL l ≤ wh) ∧ t = ((isortL (l ++ [whole / prodL l])).reverse, pins)
def Q1 (num den wl wh : Int) (kw count : Nat) (pins : List Int) (t : Tr) : Prop :=
  (prodL pins % den = 0 ∧ num ≤ 8000000) ∧ ∃ l ∈ LN (count - 1) wl (kw + 1), Q2 wl wh (prodL pins / den * num) pins l t
theorem exStep2_best {wl wh whole : Int} {pins : List Int} (S : Tr → Prop) (o : Option Tr) (l : List Int) (h : BestOf S o) : BestOf (fun t => S t ∨ Q2 wl wh whole pins l t) (exStep2 wl wh whole pins o l) := by
  unfold exStep2
  by_cases hc : whole % prodL l = 0 ∧ wl ≤ whole / prodL l ∧ whole / prodL l ≤ wh
  · rw [if_pos hc]
    have he : ∀ t, (S t ∨ t = ((isortL (l ++ [whole / prodL l])).reverse, pins)) ↔ (S t ∨ Q2 wl wh whole pins l t) := fun t => by simp [Q2, hc]
    exact (h.min _ _).congr he
  · rw [if_neg hc]
    exact h.keep fun t ht => hc ht.1
theorem exStep1_best {num den wl wh : Int} {kw count : Nat} (S : Tr → Prop) (o : Option Tr) (pins : List Int) (h : BestOf S o) : BestOf (fun t => S t ∨ Q1 num den wl wh kw count pins t) (exStep1 num den wl wh kw count o pins) := by
  unfold exStep1
  split
  · rename_i hc
    refine (BestOf.fold (fun S o a h => exStep2_best S o a h) _ S o h).congr fun t => ?_
    simp [Q1, hc]
  · rename_i hc
    exact h.keep fun t ht => hc ht.1
theorem exCount_best (num den wl wh pl : Int) (kw kp count : Nat) : BestOf (fun t => ∃ pins ∈ LN count pl (kp + 1), Q1 num den wl wh kw count pins t) (exCount num den wl wh pl kw kp count) := by
  have h0 : BestOf (fun _ => False) none := fun t h => h
  exact (BestOf.fold (fun S o a h => exStep1_best S o a h) _ _ _ h0).congr fun t => by simp

/-- The trains with a ratio. -/
def HasR (num den : Int) (t : Tr) : Prop := prodL t.1 * den = prodL t.2 * num
theorem dvd_of_low {num den p : Int} (h : FOk (num, den)) (hd : den ∣ p * num) : den ∣ p := by
  have h1 : Int.gcd den num = 1 := by rw [Int.gcd_comm]; exact h.2.2.2
  have h2 : den.natAbs ∣ p.natAbs * num.natAbs := by rw [← Int.natAbs_mul]; exact Int.natAbs_dvd_natAbs.2 hd
  exact Int.natAbs_dvd_natAbs.1 (Nat.Coprime.dvd_of_dvd_mul_right h1 h2)

theorem count_mem {num den wl wh pl ph st : Int} {count : Nat} (h : FOk (num, den)) (hn : 0 < num) (hl : LimOk wl wh pl ph st) (hc1 : 1 ≤ count) (hc : (count : Int) ≤ st) (t : Tr) :
    (∃ pins ∈ LN count pl ((ph - pl).toNat + 1), Q1 num den wl wh (wh - wl).toNat count pins t) ↔ (t.1.length = count ∧ FitsOk t.1 t.2 wl wh pl ph st) ∧ HasR num den t := by
  obtain ⟨l1, l2, l3, l4, l5, l6, l7, l8, l9, l10⟩ := hl
  have hden := h.1
  simp only at hden
  constructor
  · rintro ⟨pins, hp, ⟨hq1, hq2⟩, l, hl, ⟨hq3, hq4, hq5⟩, rfl⟩
    obtain ⟨p1, p2, p3⟩ := (LN_mem _ _ _ _).1 hp
    obtain ⟨w1, w2, w3⟩ := (LN_mem _ _ _ _).1 hl
    have hlen : (isortL (l ++ [prodL pins / den * num / prodL l])).reverse.length = count := by rw [List.length_reverse, isortL_len, List.length_append, w1, List.length_singleton]; omega
    have hw : ∀ x ∈ (isortL (l ++ [prodL pins / den * num / prodL l])).reverse, wl ≤ x ∧ x ≤ wh := by
      intro x hx
      rw [List.mem_reverse, mem_isortL, List.mem_append, List.mem_singleton] at hx
      rcases hx with hx | rfl
      · have := w3 x hx; omega
      · exact ⟨hq4, hq5⟩
    have hpn : ∀ x ∈ pins, pl ≤ x ∧ x ≤ ph := fun x hx => by have := p3 x hx; omega
    have hl0 : prodL l ≠ 0 := by have := (prodL_bound l (fun x hx => by have := w3 x hx; omega)).1; omega
    refine ⟨⟨hlen, ⟨by rw [hlen]; exact hc1, by rw [hlen]; exact hc, by rw [hlen]; exact p1, fun x hx => ?_⟩, hw, hpn, (downL_pair _).2 ?_, (upL_pair _).2 ((rises_pair _).1 p2)⟩, ?_⟩
    · rcases List.mem_append.1 hx with hx | hx
      · have := hw x hx; omega
      · have := hpn x hx; omega
    · rw [List.pairwise_reverse]; exact isortL_pair _
    · show prodL (isortL (l ++ [prodL pins / den * num / prodL l])).reverse * den = prodL pins * num
      rw [prodL_rev, prodL_isort, prodL_snoc, Int.mul_ediv_cancel' (Int.dvd_of_emod_eq_zero hq3), Int.mul_right_comm, Int.ediv_mul_cancel (Int.dvd_of_emod_eq_zero hq1)]
  · obtain ⟨ws, ps⟩ := t
    rintro ⟨⟨h1, ⟨t1, t2, t3, t4⟩, f1, f2, f3, f4⟩, h2⟩
    simp only at h1 t1 t2 t3 t4 f1 f2 f3 f4
    have h2 : prodL ws * den = prodL ps * num := h2
    have hd : den ∣ prodL ps := dvd_of_low h ⟨prodL ws, by rw [← h2, Int.mul_comm]⟩
    have hws := prodL_bound ws (fun x hx => by have := f1 x hx; omega)
    have hps := prodL_bound ps (fun x hx => by have := f2 x hx; omega)
    have hwhole : prodL ps / den * num = prodL ws := by
      refine Int.eq_of_mul_eq_mul_right (a := den) (by omega) ?_
      rw [h2, Int.mul_right_comm, Int.ediv_mul_cancel hd]
    have hnum : num ≤ 8000000 := by
      have h3 : num ≤ prodL ws := by
        rw [← hwhole]
        have h4 : 1 ≤ prodL ps / den := by
          rcases Int.lt_or_le 0 (prodL ps / den) with h | h
          · omega
          · have := Int.mul_le_mul_of_nonneg_right h (Int.le_of_lt hn); rw [hwhole] at this; omega
        have := Int.mul_le_mul_of_nonneg_right h4 (Int.le_of_lt hn)
        omega
      have h5 : (200 : Int) ^ ws.length ≤ 200 ^ 3 := (by
        have h6 := Nat.pow_le_pow_right (show 0 < 200 by omega) (show ws.length ≤ 3 by omega)
        have h := Int.ofNat_le.2 h6; rw [Int.natCast_pow, Int.natCast_pow] at h; exact h)
      have : (200 : Int) ^ 3 = 8000000 := by decide
      omega
    have hrp : ws.reverse.Pairwise (· ≤ ·) := by rw [List.pairwise_reverse]; exact (downL_pair _).1 f3
    have hne : ws.reverse ≠ [] := by intro e; have := congrArg List.length e; simp at this; subst this; simp at t1
    have hsp := List.dropLast_concat_getLast hne
    have hprod : prodL ws.reverse.dropLast * ws.reverse.getLast hne = prodL ws := by
      rw [← prodL_rev ws]
      conv => rhs; rw [← hsp]
      rw [prodL_snoc]
    have hmr : ∀ x ∈ ws.reverse.dropLast, wl ≤ x ∧ x ≤ wh := fun x hx => f1 x (List.mem_reverse.1 ((List.dropLast_sublist _).subset hx))
    have hlast := f1 _ (List.mem_reverse.1 (List.getLast_mem hne))
    have hl0 := (prodL_bound ws.reverse.dropLast (fun x hx => by have := hmr x hx; omega)).1
    refine ⟨ps, (LN_mem _ _ _ _).2 ⟨by omega, (rises_pair _).2 ((upL_pair _).1 f4), fun x hx => by have := f2 x hx; omega⟩, ⟨Int.emod_eq_zero_of_dvd hd, hnum⟩, ws.reverse.dropLast, (LN_mem _ _ _ _).2 ⟨by simp; omega, (rises_pair _).2 (hrp.sublist (List.dropLast_sublist _)), fun x hx => by have := hmr x hx; omega⟩, ?_⟩
    have hdiv : prodL ps / den * num / prodL ws.reverse.dropLast = ws.reverse.getLast hne := by
      rw [hwhole, ← hprod, Int.mul_ediv_cancel_left _ (by omega)]
    refine ⟨⟨?_, by rw [hdiv]; exact hlast.1, by rw [hdiv]; exact hlast.2⟩, ?_⟩
    · rw [hwhole, ← hprod]; exact Int.mul_emod_right _ _
    · rw [hdiv, hsp, isortL_id _ hrp, List.reverse_reverse]

theorem exFrom_best {num den wl wh pl ph st : Int} (h : FOk (num, den)) (hn : 0 < num) (hl : LimOk wl wh pl ph st) : ∀ (n c : Nat), 1 ≤ c → ((c + n : Nat) : Int) = st + 1 →
    BestOf (fun t => (c ≤ t.1.length ∧ FitsOk t.1 t.2 wl wh pl ph st) ∧ HasR num den t) (exFrom num den wl wh pl (wh - wl).toNat (ph - pl).toNat n c)
  | 0, c, hc, he => fun t ht => by
    have := ht.1.2.1.2.1
    have := ht.1.1
    omega
  | n + 1, c, hc, he => by
    have h1 := (exCount_best num den wl wh pl (wh - wl).toNat (ph - pl).toNat c).congr (count_mem h hn hl hc (by omega))
    have h2 := exFrom_best h hn hl n (c + 1) (by omega) (by omega)
    unfold exFrom
    cases hx : exCount num den wl wh pl (wh - wl).toNat (ph - pl).toNat c with
    | none =>
      rw [hx] at h1
      refine h2.congr fun t => ?_
      constructor
      · rintro ⟨⟨a1, a2⟩, a3⟩; exact ⟨⟨by omega, a2⟩, a3⟩
      · rintro ⟨⟨a1, a2⟩, a3⟩
        refine ⟨⟨?_, a2⟩, a3⟩
        rcases Nat.lt_or_ge c t.1.length with h | h
        · omega
        · exact absurd ⟨⟨by omega, a2⟩, a3⟩ (h1 t)
    | some b =>
      rw [hx] at h1
      obtain ⟨⟨⟨b1, b2⟩, b3⟩, b4⟩ := h1
      refine ⟨⟨⟨by omega, b2⟩, b3⟩, fun t ht => ?_⟩
      rcases Nat.lt_or_ge c t.1.length with h | h
      · rw [betterM_lt]; omega
      · exact b4 t ⟨⟨by have := ht.1.1; omega, ht.1.2⟩, ht.2⟩
/-- What Exact finds is the best of all trains that fit and have the ratio. -/
theorem exactM_best {num den wl wh pl ph st : Int} (h : FOk (num, den)) (hn : 0 < num) (hl : LimOk wl wh pl ph st) : BestOf (fun t => FitsOk t.1 t.2 wl wh pl ph st ∧ HasR num den t) (exactM num den wl wh pl ph st) := by
  have := hl.2.2.2.2.2.2.2.2.1
  refine (exFrom_best h hn hl st.toNat 1 (Nat.le_refl _) (by omega)).congr fun t => ?_
  constructor
  · rintro ⟨⟨_, a2⟩, a3⟩; exact ⟨a2, a3⟩
  · rintro ⟨a2, a3⟩; exact ⟨⟨a2.1.1, a2⟩, a3⟩

end Go.Proofs.YtklngjjokbhfpaaGreat
