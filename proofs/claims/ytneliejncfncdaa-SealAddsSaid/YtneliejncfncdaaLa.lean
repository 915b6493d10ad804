/- The law SealHunt: the plain part. -/
import Derived.Test.YtneliejncfncdaaKa
namespace Go.Proofs.Ytneliejncfncdaa

/-- Leaks that rise, made of any numbers: the law's loop. -/
def risers (c : Int) (xs : List Int) : Nat → List Int
  | 0 => []
  | k + 1 => if risers c xs k = [] ∨ (risers c xs k).getLastD 0 < xs.getD k 0 % c then risers c xs k ++ [xs.getD k 0 % c] else risers c xs k
theorem risers_len (c : Int) (xs : List Int) : ∀ k, (risers c xs k).length ≤ k
  | 0 => Nat.le_refl _
  | k + 1 => by
    have := risers_len c xs k
    rw [risers]
    split
    · simp; omega
    · omega
theorem rsB_snoc {limit : Int} : ∀ (l : List Int) (z y : Int), rsB limit z l = true → z < y → (l ≠ [] → l.getLastD 0 < y) → y < limit → rsB limit z (l ++ [y]) = true
  | [], z, y, _, h2, _, h4 => by simp [rsB, h2, h4]
  | x :: r, z, y, h1, h2, h3, h4 => by
    rw [rsB] at h1
    simp only [Bool.and_eq_true, decide_eq_true_eq] at h1
    obtain ⟨⟨h1a, h1b⟩, h1c⟩ := h1
    have hr : x < y := by
      have hb := rsB_bd r x h1c
      cases hrr : r with
      | nil => subst hrr; simpa using h3 (by simp)
      | cons a t =>
        have h5 := h3 (by simp)
        have hl := hb (r.length - 1) (by rw [hrr]; simp)
        have e : (x :: r).getLastD 0 = r[r.length - 1]'(by rw [hrr]; simp) := by
          subst hrr
          simp [List.getLastD_eq_getLast?, List.getLast?_eq_getElem?]
        omega
    simp only [List.cons_append, rsB, decide_eq_true h1a, decide_eq_true h1b, Bool.true_and]
    refine rsB_snoc r x y h1c hr (fun hne => ?_) h4
    have h5 := h3 (by simp)
    cases r with
    | nil => exact absurd rfl hne
    | cons a t => simpa [List.getLastD_eq_getLast?] using h5
theorem risers_rise {c : Int} (hc : 1 ≤ c) (xs : List Int) : ∀ k, rsB c (-1) (risers c xs k) = true
  | 0 => rfl
  | k + 1 => by
    have ih := risers_rise hc xs k
    have h0 := Int.emod_nonneg (xs.getD k 0) (show c ≠ 0 by omega)
    have h1 := Int.emod_lt_of_pos (xs.getD k 0) (show 0 < c by omega)
    rw [risers]
    split
    · rename_i h
      refine rsB_snoc _ _ _ ih (by omega) (fun hne => ?_) h1
      rcases h with h | h
      · exact absurd h hne
      · exact h
    · exact ih

/-- The first leak from f on is r. -/
structure FirstAt (lk : List Int) (f r : Int) : Prop where
  mem : r ∈ lk
  ge : f ≤ r
  least : ∀ n ∈ lk, f ≤ n → r ≤ n
theorem wetB_first {lk : List Int} {f r : Int} (h : FirstAt lk f r) (b : Int) : wetB lk f b = decide (r ≤ b) := by
  unfold wetB
  by_cases hb : r ≤ b
  · rw [decide_eq_true hb, List.any_eq_true]
    exact ⟨r, h.mem, by simp [h.ge, hb]⟩
  · rw [decide_eq_false hb, List.any_eq_false]
    intro n hn
    simp
    intro h1
    have := h.least n hn h1
    omega
theorem FirstAt.up {lk : List Int} {f r g : Int} (h : FirstAt lk f r) (hg : f ≤ g) (hr : g ≤ r) : FirstAt lk g r :=
  ⟨h.mem, hr, fun n hn h1 => h.least n hn (by omega)⟩

theorem srch_first (lk : List Int) (r : Int) : ∀ (s : Nat) (f l : Int) (ts : List Int), FirstAt lk f r → r ≤ l → l - f + 1 ≤ 2 ^ s →
    (srch lk f l ts).1 = r ∧ (srch lk f l ts).2.length ≤ ts.length + 2 * s
  | 0, f, l, ts, h, hl, hs => by
    have := h.ge
    rw [srch, dif_neg (by simp at hs; omega)]
    simp at hs
    exact ⟨by simp; omega, by simp⟩
  | s + 1, f, l, ts, h, hl, hs => by
    have hge := h.ge
    by_cases hfl : f < l
    · have hp : (2 : Int) ^ (s + 1) = 2 * 2 ^ s := by rw [Int.pow_succ]; omega
      rw [srch, dif_pos hfl, wetB_first h]
      by_cases hm : r ≤ f + (l - f) / 2
      · rw [decide_eq_true hm, if_pos rfl]
        have := srch_first lk r s f (f + (l - f) / 2) (ts ++ [f, f + (l - f) / 2]) h hm (by omega)
        refine ⟨this.1, ?_⟩
        have h2 := this.2
        simp at h2
        omega
      · rw [decide_eq_false hm, if_neg (by simp)]
        have := srch_first lk r s (f + (l - f) / 2 + 1) l (ts ++ [f, f + (l - f) / 2]) (h.up (by omega) (by omega)) hl (by omega)
        refine ⟨this.1, ?_⟩
        have h2 := this.2
        simp at h2
        omega
    · rw [srch, dif_neg hfl]
      exact ⟨by simp; omega, by simp⟩

theorem rsB_lower {limit : Int} : ∀ (l : List Int) (z y : Int), rsB limit z l = true → y ≤ z → rsB limit y l = true
  | [], _, _, _, _ => rfl
  | x :: r, z, y, h, hy => by
    rw [rsB] at h ⊢
    simp only [Bool.and_eq_true, decide_eq_true_eq] at h ⊢
    exact ⟨⟨by omega, h.1.2⟩, h.2⟩

/-- The hunt finds the rest of the leaks. -/
theorem huntM_rest (c : Int) (s : Nat) (hs : c ≤ 2 ^ s) : ∀ (rest pre : List Int) (f : Int) (ts fd : List Int), (∀ n ∈ pre, n < f) → 0 ≤ f → rsB c (f - 1) rest = true →
    (huntM (pre ++ rest) c f ts fd).2 = fd ++ rest ∧ (huntM (pre ++ rest) c f ts fd).1.length ≤ ts.length + 2 * (rest.length * (1 + s) + 1)
  | [], pre, f, ts, fd, hp, hf, _ => by
    have hw : wetB (pre ++ []) f (c - 1) = false := by
      unfold wetB
      rw [List.any_eq_false]
      intro n hn
      have := hp n (by simpa using hn)
      simp
      omega
    rw [huntM, hw]
    split
    · simp
    · simp
  | r :: rs, pre, f, ts, fd, hp, hf, hr => by
    have hb := rsB_bd (r :: rs) (f - 1) hr
    have hr0 := hb 0 (by simp)
    simp only [List.getElem_cons_zero] at hr0
    have hrs : rsB c r rs = true := by
      rw [rsB] at hr
      simp only [Bool.and_eq_true] at hr
      exact hr.2
    have hbr := rsB_bd rs r hrs
    have hfirst : FirstAt (pre ++ r :: rs) f r := by
      refine ⟨by simp, by omega, fun n hn h1 => ?_⟩
      rcases List.mem_append.1 hn with h | h
      · have := hp n h; omega
      · rcases List.mem_cons.1 h with rfl | h
        · exact Int.le_refl _
        · obtain ⟨k, hk, rfl⟩ := List.mem_iff_getElem.1 h
          have := hbr k hk
          omega
    rw [huntM, dif_pos (by omega), wetB_first hfirst, decide_eq_true (by omega), if_pos rfl]
    have hsr := srch_first (pre ++ r :: rs) r s f (c - 1) (ts ++ [f, c - 1]) hfirst (by omega) (by omega)
    rw [hsr.1]
    have e : pre ++ r :: rs = (pre ++ [r]) ++ rs := by simp
    have ih := huntM_rest c s hs rs (pre ++ [r]) (r + 1) (srch (pre ++ r :: rs) f (c - 1) (ts ++ [f, c - 1])).2 (fd ++ [r]) (fun n hn => by
      rcases List.mem_append.1 hn with h | h
      · have := hp n h; omega
      · have : n = r := by simpa using h
        omega) (by omega) (by rw [show r + 1 - 1 = r by omega]; exact hrs)
    rw [← e] at ih
    refine ⟨by rw [ih.1]; simp, ?_⟩
    have h2 := ih.2
    have h3 := hsr.2
    simp at h3
    have h4 : (r :: rs).length * (1 + s) = rs.length * (1 + s) + (1 + s) := by simp [Nat.add_mul]
    rw [h4]
    omega

theorem huntM_found {c : Int} {lk : List Int} (hr : rsB c (-1) lk = true) (s : Nat) (hs : c ≤ 2 ^ s) :
    (huntM lk c 0 [] []).2 = lk ∧ (huntM lk c 0 [] []).1.length ≤ 2 * (lk.length * (1 + s) + 1) := by
  have := huntM_rest c s hs lk [] 0 [] [] (by simp) (by omega) hr
  simpa using this
end Go.Proofs.Ytneliejncfncdaa
