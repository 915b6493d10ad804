/- Lists of numbers that do not fall, one after the other: plain lemmas, no program in sight. -/
import Derived.WalkKit
namespace Go.Proofs.YtklngjjokbhfpaaGreatDoor

def goL (f : Int → Nat → List (List Int)) : Int → Nat → List (List Int)
  | _, 0 => []
  | lo, k + 1 => (f lo (k + 1)).map (lo :: ·) ++ goL f (lo + 1) k
/-- The lists of n numbers of the k ones from lo on that do not fall, in their order. -/
def LN : Nat → Int → Nat → List (List Int)
  | 0 => fun _ _ => [[]]
  | n + 1 => goL (LN n)

/-- The list that follows. -/
def nextL (hi : Int) : List Int → Option (List Int)
  | [] => none
  | v :: t => match nextL hi t with
    | some t' => some (v :: t')
    | none => if v = hi then none else some (List.replicate (t.length + 1) (v + 1))

/-- Each one is followed by the next one, the last one by none. -/
def ChainL (hi : Int) : List (List Int) → Prop
  | [] => True
  | [x] => nextL hi x = none
  | x :: y :: r => nextL hi x = some y ∧ ChainL hi (y :: r)

theorem chainL_map {hi lo : Int} {n : Nat} {post : List (List Int)} (hp : match post with | [] => lo = hi | y :: _ => lo ≠ hi ∧ y = List.replicate (n + 1) (lo + 1)) (hpc : ChainL hi post) :
    ∀ {L : List (List Int)}, L ≠ [] → (∀ x ∈ L, x.length = n) → ChainL hi L → ChainL hi (L.map (lo :: ·) ++ post)
  | [], h, _, _ => absurd rfl h
  | [x], _, hl, hc => by
    have hx : x.length = n := hl x (by simp)
    simp only [ChainL] at hc
    cases post with
    | nil => simp only [] at hp; simp [ChainL, nextL, hc, hp]
    | cons y r => simp only [] at hp; obtain ⟨h1, h2⟩ := hp; simp [ChainL, nextL, hc, h1, h2, hx]; rw [← h2]; exact hpc
  | x :: y :: r, _, hl, hc => by
    obtain ⟨h1, h2⟩ := hc
    have := chainL_map hp hpc (L := y :: r) (by simp) (fun z hz => hl z (by simp [hz])) h2
    simp only [List.map_cons, List.cons_append] at this ⊢
    exact ⟨by simp [nextL, h1], this⟩

theorem goL_len {f : Int → Nat → List (List Int)} {n : Nat} (hf : ∀ lo k, ∀ x ∈ f lo k, x.length = n) : ∀ (k : Nat) (lo : Int), ∀ x ∈ goL f lo k, x.length = n + 1
  | 0, lo, x, h => by simp [goL] at h
  | k + 1, lo, x, h => by
    simp only [goL, List.mem_append, List.mem_map] at h
    rcases h with ⟨y, hy, rfl⟩ | h
    · simp [hf _ _ y hy]
    · exact goL_len hf k _ x h
theorem LN_len : ∀ (n : Nat) (lo : Int) (k : Nat), ∀ x ∈ LN n lo k, x.length = n
  | 0, _, _, x, h => by simp [LN] at h; simp [h]
  | n + 1, lo, k, x, h => goL_len (LN_len n) k lo x h

theorem goL_head {f : Int → Nat → List (List Int)} {n : Nat} (hf : ∀ lo k, ∃ r, f lo (k + 1) = List.replicate n lo :: r) (lo : Int) (k : Nat) : ∃ r, goL f lo (k + 1) = List.replicate (n + 1) lo :: r := by
  obtain ⟨r, hr⟩ := hf lo k
  exact ⟨r.map (lo :: ·) ++ goL f (lo + 1) k, by simp only [goL, hr, List.map_cons, List.cons_append, List.replicate_succ]⟩
theorem LN_head : ∀ (n : Nat) (lo : Int) (k : Nat), ∃ r, LN n lo (k + 1) = List.replicate n lo :: r
  | 0, _, _ => ⟨[], rfl⟩
  | n + 1, lo, k => goL_head (LN_head n) lo k

theorem goL_chain {f : Int → Nat → List (List Int)} {n : Nat} (hl : ∀ lo k, ∀ x ∈ f lo k, x.length = n) (hh : ∀ lo k, ∃ r, f lo (k + 1) = List.replicate n lo :: r) (hc : ∀ (lo : Int) (k : Nat), ChainL (lo + k) (f lo (k + 1))) :
    ∀ (k : Nat) (lo : Int), ChainL (lo + k) (goL f lo (k + 1))
  | 0, lo => by
    have := chainL_map (lo := lo) (n := n) (hi := lo + (0 : Nat)) (post := []) (by simp) trivial (L := f lo 1) (by obtain ⟨r, hr⟩ := hh lo 0; simp at hr; simp [hr]) (hl lo 1) (hc lo 0)
    simpa [goL] using this
  | k + 1, lo => by
    have ih := goL_chain hl hh hc k (lo + 1)
    obtain ⟨r, hr⟩ := goL_head hh (lo + 1) k
    rw [show lo + 1 + (k : Int) = lo + ((k + 1 : Nat) : Int) by omega] at ih
    have := chainL_map (lo := lo) (n := n) (hi := lo + ((k + 1 : Nat) : Int)) (post := goL f (lo + 1) (k + 1)) (by rw [hr]; exact ⟨by omega, rfl⟩) ih (L := f lo (k + 1 + 1)) (by obtain ⟨r, hr⟩ := hh lo (k + 1); simp [hr]) (hl lo _) (hc lo (k + 1))
    rw [goL]; exact this
theorem LN_chain : ∀ (n : Nat) (lo : Int) (k : Nat), ChainL (lo + k) (LN n lo (k + 1))
  | 0, _, _ => rfl
  | n + 1, lo, k => goL_chain (LN_len n) (LN_head n) (LN_chain n) k lo

theorem ChainL.step {hi : Int} : ∀ {pre : List (List Int)} {x : List Int} {post : List (List Int)}, ChainL hi (pre ++ x :: post) → nextL hi x = post.head?
  | [], _x, [], h => h
  | [], _x, _y :: _r, h => h.1
  | [_p], x, post, h => ChainL.step (pre := []) (x := x) (post := post) h.2
  | _p :: q :: pre, x, post, h => ChainL.step (pre := q :: pre) (x := x) (post := post) h.2

/-- Does not fall. -/
def Rises : List Int → Prop
  | [] => True
  | [_] => True
  | x :: y :: r => x ≤ y ∧ Rises (y :: r)
theorem Rises.cons {v : Int} {x : List Int} (h : Rises x) (hv : ∀ u ∈ x, v ≤ u) : Rises (v :: x) := by
  cases x with
  | nil => trivial
  | cons y r => exact ⟨hv y (by simp), h⟩
theorem Rises.tail {v : Int} {x : List Int} (h : Rises (v :: x)) : Rises x := by
  cases x with
  | nil => trivial
  | cons y r => exact h.2
theorem Rises.least : ∀ {x : List Int} {v : Int}, Rises (v :: x) → ∀ u ∈ x, v ≤ u
  | [], _, _, u, h => by cases h
  | y :: r, v, h, u, hu => by
    simp at hu
    rcases hu with rfl | hu
    · exact h.1
    · exact Int.le_trans h.1 (Rises.least h.2 u hu)

theorem goL_mem {f : Int → Nat → List (List Int)} {n : Nat} (hf : ∀ lo k x, x ∈ f lo k ↔ x.length = n ∧ Rises x ∧ ∀ v ∈ x, lo ≤ v ∧ v < lo + (k : Int)) :
    ∀ (k : Nat) (lo : Int) (x : List Int), x ∈ goL f lo k ↔ x.length = n + 1 ∧ Rises x ∧ ∀ v ∈ x, lo ≤ v ∧ v < lo + (k : Int)
  | 0, lo, x => by
    simp only [goL, List.not_mem_nil, false_iff]
    rintro ⟨h1, _, h3⟩
    cases x with
    | nil => simp at h1
    | cons v x => have := h3 v (by simp); omega
  | k + 1, lo, x => by
    simp only [goL, List.mem_append, List.mem_map, hf, goL_mem hf k (lo + 1) x]
    constructor
    · rintro (⟨y, ⟨h1, h2, h3⟩, rfl⟩ | ⟨h1, h2, h3⟩)
      · refine ⟨by simp [h1], h2.cons fun u hu => (h3 u hu).1, fun v hv => ?_⟩
        simp at hv
        rcases hv with rfl | hv
        · omega
        · have := h3 v hv; omega
      · exact ⟨h1, h2, fun v hv => by have := h3 v hv; omega⟩
    · rintro ⟨h1, h2, h3⟩
      cases x with
      | nil => simp at h1
      | cons v x =>
        by_cases e : v = lo
        · subst e
          exact .inl ⟨x, ⟨by simpa using h1, h2.tail, fun u hu => ⟨h2.least u hu, (h3 u (by simp [hu])).2⟩⟩, rfl⟩
        · refine .inr ⟨h1, h2, fun u hu => ?_⟩
          have hv := h3 v (by simp)
          have hu3 := h3 u hu
          simp at hu
          rcases hu with rfl | hu
          · omega
          · have := h2.least u hu; omega
theorem LN_mem : ∀ (n : Nat) (lo : Int) (k : Nat) (x : List Int), x ∈ LN n lo k ↔ x.length = n ∧ Rises x ∧ ∀ v ∈ x, lo ≤ v ∧ v < lo + (k : Int)
  | 0, lo, k, x => by
    simp only [LN, List.mem_singleton]
    constructor
    · rintro rfl; simp [Rises]
    · rintro ⟨h, _⟩; exact List.eq_nil_of_length_eq_zero h
  | n + 1, lo, k, x => goL_mem (LN_mem n) k lo x

/-- The next list, as the code finds it. -/
theorem nextL_at {hi v : Int} {m : Nat} (hv : v ≠ hi) : ∀ (pre : List Int), nextL hi (pre ++ v :: List.replicate m hi) = some (pre ++ List.replicate (m + 1) (v + 1))
  | [] => by
    have h0 : ∀ m, nextL hi (List.replicate m hi) = none := fun m => by
      induction m with
      | zero => rfl
      | succ m ih => simp [List.replicate_succ, nextL, ih]
    simp [nextL, h0, hv]
  | p :: pre => by simp [nextL, nextL_at hv pre]
theorem nextL_none {hi : Int} : ∀ m, nextL hi (List.replicate m hi) = none
  | 0 => rfl
  | m + 1 => by simp [List.replicate_succ, nextL, nextL_none m]

end Go.Proofs.YtklngjjokbhfpaaGreatDoor
