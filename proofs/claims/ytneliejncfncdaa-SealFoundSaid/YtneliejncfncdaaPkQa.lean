/- Texts Qa in one. -/
import Derived.Test.YtneliejncfncdaaPkPa
import Derived.Test.YtneliejncfncdaaPkHa
namespace Go.Proofs.Ytneliejncfncdaa

theorem setAll_get (ps : List Int) : ∀ (b : List Bool) (p : Nat), (∀ z ∈ ps, 0 ≤ z) → p < b.length → (setAll b ps).getD p false = (b.getD p false || decide ((p : Int) ∈ ps)) := by
  induction ps with
  | nil => intro b p _ _; simp [setAll]
  | cons z ps ih =>
    intro b p hz hp
    have h0 := hz z (by simp)
    have ih' := ih (b.set z.toNat true) p (fun y hy => hz y (List.mem_cons_of_mem _ hy)) (by simpa using hp)
    have e : setAll b (z :: ps) = setAll (b.set z.toNat true) ps := rfl
    rw [e, ih']
    by_cases hzp : z = p
    · subst hzp
      have : (b.set (p : Int).toNat true).getD p false = true := by simp [List.getD, hp]
      rw [this]
      simp
    · have h1 : (b.set z.toNat true).getD p false = b.getD p false := by
        simp only [List.getD]
        rw [List.getElem?_set_ne (by omega)]
      rw [h1]
      have h2 : ((p : Int) ∈ z :: ps) ↔ (p : Int) ∈ ps := by
        rw [List.mem_cons]
        constructor
        · rintro (h | h)
          · exact absurd h.symm hzp
          · exact h
        · exact .inr
      simp [h2]
theorem members_nonneg {q : Int} (hq : 2 ≤ q) (item : Int) (t n : Nat) : ∀ z ∈ membersM q item t n, 0 ≤ z := fun z hz => by
  obtain ⟨k, hk, rfl⟩ := List.mem_iff_getElem.1 hz
  exact (members_bd hq t n hk).1
/-- A pool is wet if an item that leaks is in it. -/
theorem wetM_get {q : Int} (hq : 2 ≤ q) (t n : Nat) (ls : List Int) {p : Nat} (hp : p < n * q.toNat) : (wetM q t n ls).getD p false = ls.any fun i => decide ((p : Int) ∈ membersM q i t n) := by
  have key : ∀ (ls : List Int) (b : List Bool), p < b.length → (ls.foldl (fun b i => setAll b (membersM q i t n)) b).getD p false = (b.getD p false || ls.any fun i => decide ((p : Int) ∈ membersM q i t n)) := by
    intro ls
    induction ls with
    | nil => intro b _; simp
    | cons i ls ih =>
      intro b hb
      rw [List.foldl_cons, ih _ (by rw [setAll_length]; exact hb), setAll_get _ _ _ (members_nonneg hq i t n) hb, List.any_cons, Bool.or_assoc]
  unfold wetM
  rw [key ls _ (by simpa using hp)]
  simp [List.getD, hp]

/-- One of the first k numbers, folded, is i. -/
def inN (xs : List Int) (I i : Int) : Nat → Bool
  | 0 => false
  | k + 1 => inN xs I i k || (decide (k < xs.length) && decide (xs.getD k 0 % I = i))
/-- The items below k of which f is true. -/
def listN (f : Nat → Bool) : Nat → List Int
  | 0 => []
  | k + 1 => if f k = true then listN f k ++ [(k : Int)] else listN f k
theorem listN_len (f : Nat → Bool) : ∀ k, (listN f k).length ≤ k
  | 0 => Nat.le_refl _
  | k + 1 => by
    have := listN_len f k
    rw [listN]
    split
    · simp; omega
    · omega
theorem listN_rise (f : Nat → Bool) (n : Nat) : ∀ k, k ≤ n → rsB (n : Int) (-1) (listN f k) = true ∧ (listN f k ≠ [] → (listN f k).getLastD 0 < k)
  | 0, _ => ⟨rfl, fun h => absurd rfl h⟩
  | k + 1, hk => by
    have ih := listN_rise f n k (by omega)
    rw [listN]
    split
    · exact ⟨rsB_snoc _ _ _ ih.1 (by omega) ih.2 (by omega), fun _ => by simp [List.getLastD_eq_getLast?]; omega⟩
    · exact ⟨ih.1, fun h => by have := ih.2 h; omega⟩
theorem listN_any (f : Nat → Bool) (h : Int → Bool) : ∀ k, (listN f k).any h = (List.range k).any fun i => f i && h i
  | 0 => rfl
  | k + 1 => by
    rw [listN, List.range_succ, List.any_append]
    split
    · rename_i hf
      rw [List.any_append, listN_any f h k]
      simp [hf]
    · rename_i hf
      rw [listN_any f h k]
      simp [hf]
theorem any_or {α : Type} (l : List α) (f g : α → Bool) : (l.any fun i => f i || g i) = (l.any f || l.any g) := by
  induction l with
  | nil => rfl
  | cons a l ih => simp only [List.any_cons, ih]; cases f a <;> cases g a <;> simp
/-- The results of leaks together. -/
theorem wet_adds {q : Int} (hq : 2 ≤ q) (t n : Nat) (f g : Nat → Bool) (k : Nat) {p : Nat} (hp : p < n * q.toNat) :
    (wetM q t n (listN (fun i => f i || g i) k)).getD p false = ((wetM q t n (listN f k)).getD p false || (wetM q t n (listN g k)).getD p false) := by
  rw [wetM_get hq _ _ _ hp, wetM_get hq _ _ _ hp, wetM_get hq _ _ _ hp, listN_any, listN_any, listN_any, ← any_or]
  congr 1
  funext i
  cases f i <;> cases g i <;> simp
end Go.Proofs.Ytneliejncfncdaa
