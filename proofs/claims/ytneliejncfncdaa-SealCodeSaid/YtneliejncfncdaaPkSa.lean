/- Texts Sa Sb in one. -/
import Derived.Test.YtneliejncfncdaaPkPa
import Derived.Test.YtneliejncfncdaaPkJa
import Derived.Test.YtneliejncfncdaaPkK
namespace Go.Proofs.Ytneliejncfncdaa

/-- The factors of a row times unknowns. -/
def dot (r : List Int) (x : Nat → Int) : Nat → Int
  | 0 => 0
  | k + 1 => dot r x k + r.getD k 0 * x k
/-- Unknowns satisfy a row. -/
def SatR (q : Int) (u : Nat) (r : List Int) (x : Nat → Int) : Prop := q ∣ dot r x u - r.getD u 0
/-- .. all rows. -/
def Sat (q : Int) (u : Nat) (rs : List (List Int)) (x : Nat → Int) : Prop := ∀ i, i < rs.length → SatR q u (rs.getD i []) x

theorem dot_zero (r : List Int) (x : Nat → Int) : ∀ k, (∀ j, j < k → r.getD j 0 * x j = 0) → dot r x k = 0
  | 0, _ => rfl
  | k + 1, h => by rw [dot, dot_zero r x k (fun j hj => h j (by omega)), h k (by omega)]; rfl
theorem dot_one (r : List Int) (x : Nat → Int) (c : Nat) : ∀ k, c < k → (∀ j, j < k → j ≠ c → r.getD j 0 * x j = 0) → dot r x k = r.getD c 0 * x c
  | 0, h, _ => by omega
  | k + 1, h, hz => by
    rw [dot]
    by_cases e : c = k
    · subst e
      rw [dot_zero r x c (fun j hj => hz j (by omega) (by omega))]
      omega
    · rw [dot_one r x c k (by omega) (fun j hj hn => hz j (by omega) hn), hz k (by omega) (by omega)]
      omega
theorem dot_near {q : Int} (r s t : List Int) (x : Nat → Int) (a b : Int) : ∀ k, (∀ j, j < k → ∃ z, t.getD j 0 = a * r.getD j 0 + b * s.getD j 0 + q * z) → ∃ z, dot t x k = a * dot r x k + b * dot s x k + q * z
  | 0, _ => ⟨0, by simp [dot]⟩
  | k + 1, h => by
    obtain ⟨z, hz⟩ := dot_near r s t x a b k (fun j hj => h j (by omega))
    obtain ⟨y, hy⟩ := h k (by omega)
    exact ⟨z + y * x k, by simp only [dot, hz, hy]; grind⟩

theorem scale_get (q : Int) (r : List Int) (m : Int) {j : Nat} (hj : j < r.length) : (scale q r m).getD j 0 = r.getD j 0 * m % q := by
  simp [scale, List.getD, hj]
theorem less_get (q : Int) (r s : List Int) {j : Nat} (hj : j < r.length) : (less q r s).getD j 0 = (r.getD j 0 - s.getD j 0) % q := by
  simp [less, List.getD, hj]

theorem SatR.scale {q : Int} {u : Nat} {r : List Int} {x : Nat → Int} (hl : r.length = u + 1) (m : Int) (h : SatR q u r x) : SatR q u (scale q r m) x := by
  obtain ⟨z, hz⟩ := dot_near (q := q) r r (Ytneliejncfncdaa.scale q r m) x m 0 u (fun j hj => by
    obtain ⟨y, hy⟩ := emod_near q (r.getD j 0 * m)
    exact ⟨y, by rw [scale_get q r m (by omega), hy]; grind⟩)
  obtain ⟨y, hy⟩ := emod_near q (r.getD u 0 * m)
  obtain ⟨k, hk⟩ := h
  unfold SatR
  rw [hz, scale_get q r m (by omega), hy]
  exact ⟨m * k + z - y, by grind⟩
theorem SatR.unscale {q : Int} (hq : PM.Pr q) {u : Nat} {r : List Int} {x : Nat → Int} (hl : r.length = u + 1) (m : Int) (hm : ¬ q ∣ m) (h : SatR q u (Ytneliejncfncdaa.scale q r m) x) : SatR q u r x := by
  obtain ⟨z, hz⟩ := dot_near (q := q) r r (Ytneliejncfncdaa.scale q r m) x m 0 u (fun j hj => by
    obtain ⟨y, hy⟩ := emod_near q (r.getD j 0 * m)
    exact ⟨y, by rw [scale_get q r m (by omega), hy]; grind⟩)
  obtain ⟨y, hy⟩ := emod_near q (r.getD u 0 * m)
  unfold SatR at h ⊢
  rw [hz, scale_get q r m (by omega), hy] at h
  obtain ⟨k, hk⟩ := h
  have : q ∣ m * (dot r x u - r.getD u 0) := ⟨k - z + y, by grind⟩
  rcases hq.prime _ _ this with h' | h'
  · exact absurd h' hm
  · exact h'
theorem SatR.less {q : Int} {u : Nat} {r s : List Int} {x : Nat → Int} (hl : r.length = u + 1) (hs : SatR q u s x) : SatR q u (less q r s) x ↔ SatR q u r x := by
  obtain ⟨z, hz⟩ := dot_near (q := q) r s (Ytneliejncfncdaa.less q r s) x 1 (-1) u (fun j hj => by
    obtain ⟨y, hy⟩ := emod_near q (r.getD j 0 - s.getD j 0)
    exact ⟨y, by rw [less_get q r s (by omega), hy]; grind⟩)
  obtain ⟨y, hy⟩ := emod_near q (r.getD u 0 - s.getD u 0)
  obtain ⟨k, hk⟩ := hs
  unfold SatR
  rw [hz, less_get q r s (by omega), hy]
  constructor
  · rintro ⟨l, hl'⟩; exact ⟨l + k - z + y, by grind⟩
  · rintro ⟨l, hl'⟩; exact ⟨l - k + z - y, by grind⟩

theorem getD_set (rs : List (List Int)) (k i : Nat) (r : List Int) : (rs.set k r).getD i [] = if i = k ∧ k < rs.length then r else rs.getD i [] := by
  simp only [List.getD, List.getElem?_set]
  by_cases h : k = i
  · subst h
    by_cases h2 : k < rs.length
    · simp [h2]
    · simp [h2]
  · rw [if_neg h, if_neg (by omega)]
theorem Sat.set {q : Int} {u : Nat} {rs : List (List Int)} {x : Nat → Int} {k : Nat} (hk : k < rs.length) (r : List Int) (h : (∀ i, i < rs.length → i ≠ k → SatR q u (rs.getD i []) x) → (SatR q u r x ↔ SatR q u (rs.getD k []) x)) :
    Sat q u (rs.set k r) x ↔ Sat q u rs x := by
  unfold Sat
  rw [List.length_set]
  constructor
  · intro hs i hi
    have ho : ∀ i, i < rs.length → i ≠ k → SatR q u (rs.getD i []) x := fun i hi hne => by
      have := hs i hi
      rwa [getD_set, if_neg (by omega)] at this
    by_cases e : i = k
    · subst e
      have := hs i hi
      rw [getD_set, if_pos ⟨rfl, hk⟩] at this
      exact (h ho).1 this
    · exact ho i hi e
  · intro hs i hi
    have ho : ∀ i, i < rs.length → i ≠ k → SatR q u (rs.getD i []) x := fun i hi _ => hs i hi
    by_cases e : i = k
    · subst e
      rw [getD_set, if_pos ⟨rfl, hk⟩]
      exact (h ho).2 (hs i hi)
    · rw [getD_set, if_neg (by omega)]
      exact hs i hi

theorem Sat.swapped {q : Int} {u : Nat} {rs : List (List Int)} {x : Nat → Int} {i j : Nat} (hi : i < rs.length) (hj : j < rs.length) : Sat q u (swapped rs i j) x ↔ Sat q u rs x := by
  have hg : ∀ k, (Ytneliejncfncdaa.swapped rs i j).getD k [] = if k = j then rs.getD i [] else if k = i then rs.getD j [] else rs.getD k [] := fun k => by
    unfold Ytneliejncfncdaa.swapped
    rw [getD_set, getD_set]
    by_cases h1 : k = j
    · subst h1; simp [hj]
    · rw [if_neg (by omega), if_neg h1]
      by_cases h2 : k = i
      · subst h2; simp [hi]
      · rw [if_neg (by omega), if_neg h2]
  unfold Sat
  rw [swapped_length]
  constructor
  · intro h k hk
    by_cases h1 : k = i
    · have := h j hj
      rw [hg, if_pos rfl] at this
      rw [h1]; exact this
    · by_cases h2 : k = j
      · have := h i hi
        rw [hg] at this
        by_cases h3 : i = j
        · rw [if_pos h3] at this; rw [h2, ← h3]; exact this
        · rw [if_neg h3, if_pos rfl] at this; rw [h2]; exact this
      · have := h k hk
        rwa [hg, if_neg h2, if_neg h1] at this
  · intro h k hk
    rw [hg]
    split
    · exact h i hi
    · split
      · exact h j hj
      · exact h k hk
theorem swapped_getD {rs : List (List Int)} {i j : Nat} (hi : i < rs.length) (hj : j < rs.length) (k : Nat) : (swapped rs i j).getD k [] = if k = j then rs.getD i [] else if k = i then rs.getD j [] else rs.getD k [] := by
  unfold Ytneliejncfncdaa.swapped
  rw [getD_set, getD_set]
  by_cases h1 : k = j
  · subst h1; simp [hj]
  · rw [if_neg (by omega), if_neg h1]
    by_cases h2 : k = i
    · subst h2; simp [hi]
    · rw [if_neg (by omega), if_neg h2]

/-- The rows behind the clearing of K rows. -/
theorem cleared_getD {q : Int} {n : Nat} {rs : List (List Int)} (hg : Good q n rs) (hq : 1 ≤ q) (col done : Nat) (hd : done < rs.length) : ∀ K, K ≤ rs.length → ∀ i,
    (cleared q col done rs K).getD i [] = if i < K ∧ i ≠ done ∧ el rs i col ≠ 0 then less q (rs.getD i []) (scale q (rs.getD done []) (el rs i col)) else rs.getD i []
  | 0, _, i => by rw [cleared, if_neg (by omega)]
  | K + 1, hK, i => by
    have ih := cleared_getD hg hq col done hd K (by omega)
    have hlen := cleared_length q col done rs K
    have hKrow : (cleared q col done rs K).getD K [] = rs.getD K [] := by rw [ih K, if_neg (by omega)]
    have hel : el (cleared q col done rs K) K col = el rs K col := by unfold el; rw [hKrow]
    have hdrow : (cleared q col done rs K).getD done [] = rs.getD done [] := by rw [ih done, if_neg (by omega)]
    rw [cleared, hel]
    split
    · rename_i h
      rw [ih i]
      by_cases hi : i < K ∧ i ≠ done ∧ el rs i col ≠ 0
      · rw [if_pos hi, if_pos ⟨by omega, hi.2⟩]
      · rw [if_neg hi, if_neg (by
          rintro ⟨h1, h2, h3⟩
          by_cases e : i = K
          · subst e; rcases h with h | h
            · exact h2 h
            · exact h3 h
          · exact hi ⟨by omega, h2, h3⟩)]
    · rename_i h
      rw [getD_set, hKrow, hdrow, hlen]
      by_cases e : i = K
      · subst e
        rw [if_pos ⟨rfl, by omega⟩, if_pos ⟨by omega, by omega, by omega⟩]
      · rw [if_neg (by omega), ih i]
        by_cases hi : i < K ∧ i ≠ done ∧ el rs i col ≠ 0
        · rw [if_pos hi, if_pos ⟨by omega, hi.2⟩]
        · rw [if_neg hi, if_neg (by rintro ⟨h1, h2⟩; exact hi ⟨by omega, h2⟩)]
theorem Sat.cleared {q : Int} {u : Nat} {rs : List (List Int)} (hg : Good q (u + 1) rs) (hq : 1 ≤ q) {x : Nat → Int} (col done : Nat) (hd : done < rs.length) : ∀ K, K ≤ rs.length → (Sat q u (cleared q col done rs K) x ↔ Sat q u rs x)
  | 0, _ => Iff.rfl
  | K + 1, hK => by
    have ih := Sat.cleared hg hq (x := x) col done hd K (by omega)
    have hlen := cleared_length q col done rs K
    have hgc := Good.cleared hg hq col done K (by omega)
    rw [Ytneliejncfncdaa.cleared]
    split
    · exact ih
    · rename_i h
      refine (Sat.set (by omega) _ fun ho => ?_).trans ih
      exact SatR.less (hgc.row (by omega)) ((ho done (by omega) (by omega)).scale (hgc.row (by omega)) _)
end Go.Proofs.Ytneliejncfncdaa

namespace Go.Proofs.Ytneliejncfncdaa

/-- What is known behind k columns. -/
structure Inv (q : Int) (u m k : Nat) (st : St) : Prop where
  len : st.rs.length = m
  good : Good q (u + 1) st.rs
  dm : st.done ≤ m
  ll : st.lead.length = u
  nn : ∀ c, 0 ≤ st.lead.getD c 0
  free : ∀ c, c < k → st.lead.getD c 0 = 0 → ∀ i, st.done ≤ i → i < m → el st.rs i c = 0
  lead : ∀ c, c < k → 0 < st.lead.getD c 0 → st.lead.getD c 0 ≤ st.done ∧ el st.rs (st.lead.getD c 0 - 1).toNat c = 1 ∧ ∀ i, i < m → i ≠ (st.lead.getD c 0 - 1).toNat → el st.rs i c = 0
  inj : ∀ c c', c < k → c' < k → 0 < st.lead.getD c 0 → st.lead.getD c 0 = st.lead.getD c' 0 → c = c'
  surj : ∀ d, d < st.done → ∃ c, c < k ∧ st.lead.getD c 0 = (d : Int) + 1
  rest : ∀ c, k ≤ c → st.lead.getD c 0 = 0

theorem lead_set (l : List Int) (k c : Nat) (v : Int) (hk : k < l.length) : (l.set k v).getD c 0 = if c = k then v else l.getD c 0 := by
  simp only [List.getD, List.getElem?_set]
  by_cases h : k = c
  · subst h; simp [hk]
  · rw [if_neg h, if_neg (by omega)]

theorem el_less_scale {q : Int} {n : Nat} (r s : List Int) (m : Int) {c : Nat} (hr : r.length = n) (hs : s.length = n) (hc : c < n) : (less q r (scale q s m)).getD c 0 = (r.getD c 0 - s.getD c 0 * m % q) % q := by
  rw [less_get _ _ _ (by omega), scale_get _ _ _ (by omega)]

theorem pwf_inv {q a : Int} (hq : primeB q = true) (ha : 0 ≤ a ∧ a < q) (h0 : a ≠ 0) : a * pwf q a % q = 1 ∧ ¬ q ∣ pwf q a := by
  have h := inv_four hq (a := a) ⟨by omega, ha.2⟩
  have hb := prime_bd hq
  refine ⟨h.2.2.1, fun hd => ?_⟩
  have h1 : q ∣ a * pw q a (q - 2).toNat := Int.dvd_trans hd (Int.dvd_mul_left _ _)
  have := Int.emod_eq_zero_of_dvd h1
  have := h.2.2.1
  omega

theorem Inv.step {q : Int} (hq : primeB q = true) {u m k : Nat} {st : St} (h : Inv q u m k st) (hk : k < u) : Inv q u m (k + 1) (step (pwf q) q st k) ∧ ∀ x, Sat q u (step (pwf q) q st k).rs x ↔ Sat q u st.rs x := by
  have hb := prime_bd hq
  have hq1 : 1 ≤ q := by omega
  unfold Ytneliejncfncdaa.step
  have hle := pivot_le st.rs k (st.rs.length - st.done) st.done
  have hne := pivot_ne st.rs k (st.rs.length - st.done) st.done
  have hze := pivot_zero st.rs k (st.rs.length - st.done) st.done
  have hlen := h.len
  have hdm := h.dm
  generalize hp : pivot st.rs k (st.rs.length - st.done) st.done = p at *
  simp only
  split
  · rename_i hpm
    refine ⟨⟨h.len, h.good, h.dm, h.ll, h.nn, fun c hc hl i hi him => ?_, fun c hc hl => ?_, fun c c' hc hc' hl he => ?_, fun d hd => ?_, fun c hc => h.rest c (by omega)⟩, fun x => Iff.rfl⟩
    · by_cases e : c = k
      · subst e; exact hze i hi (by omega)
      · exact h.free c (by omega) hl i hi him
    · by_cases e : c = k
      · subst e; have := h.rest c (Nat.le_refl _); omega
      · exact h.lead c (by omega) hl
    · by_cases e : c = k
      · subst e; have := h.rest c (Nat.le_refl _); omega
      · by_cases e' : c' = k
        · subst e'; have := h.rest c' (Nat.le_refl _); omega
        · exact h.inj c c' (by omega) (by omega) hl he
    · obtain ⟨c, h1, h2⟩ := h.surj d hd
      exact ⟨c, by omega, h2⟩
  · rename_i hpm
    have hpl : p < m := by omega
    have hpd : st.done ≤ p := hle.1
    have hdl : st.done < m := by omega
    have ha := h.good.el hq1 p k
    have ha0 := hne (by omega)
    have hg1 := h.good.swapped (i := st.done) (j := p) (by omega) (by omega)
    have hl1 := swapped_length st.rs st.done p
    have hr1 := swapped_getD (rs := st.rs) (i := st.done) (j := p) (by omega) (by omega)
    have hdrow : (swapped st.rs st.done p).getD st.done [] = st.rs.getD p [] := by
      rw [hr1]
      by_cases e : st.done = p
      · rw [if_pos e, e]
      · rw [if_neg e, if_pos rfl]
    have hpv := pwf_inv hq ha ha0
    have hela : el (swapped st.rs st.done p) st.done k = el st.rs p k := by unfold el; rw [hdrow]
    -- the row behind the scaling
    obtain ⟨rs2, h2⟩ : ∃ rs2, norm (pwf q) q k (swapped st.rs st.done p) st.done = rs2 := ⟨_, rfl⟩
    have hg2 : Good q (u + 1) rs2 := by rw [← h2]; exact hg1.scaled hq1 (by omega) _ _
    have hl2 : rs2.length = m := by rw [← h2, norm_length, hl1, hlen]
    have hrow2 : ∀ i, rs2.getD i [] = if i = st.done then scale q (st.rs.getD p []) (pwf q (el st.rs p k)) else (swapped st.rs st.done p).getD i [] := fun i => by
      rw [← h2]
      unfold norm
      rw [getD_set, hdrow, hela]
      by_cases e : i = st.done
      · rw [if_pos ⟨e, by omega⟩, if_pos e]
      · rw [if_neg (by omega), if_neg e]
    have hplen : (st.rs.getD p []).length = u + 1 := h.good.row (by omega)
    have hd2 : ∀ c, c ≤ u → el rs2 st.done c = el st.rs p c * pwf q (el st.rs p k) % q := fun c hc => by
      unfold el
      rw [hrow2, if_pos rfl]
      exact scale_get _ _ _ (by omega)
    have ho2 : ∀ i, i ≠ st.done → ∀ c, el rs2 i c = el st.rs (if i = p then st.done else i) c := fun i hi c => by
      unfold el
      rw [hrow2, if_neg hi, hr1]
      by_cases e : i = p
      · rw [if_pos e, if_pos e]
      · rw [if_neg e, if_neg e, if_neg (by omega)]
    have hdk : el rs2 st.done k = 1 := by rw [hd2 k (by omega)]; exact hpv.1
    -- the rows behind the clearing
    have hr3 := cleared_getD (q := q) hg2 hq1 k st.done (by omega) rs2.length (Nat.le_refl _)
    have h3 : ∀ i c, c ≤ u → el (cleared q k st.done rs2 rs2.length) i c = if i < m ∧ i ≠ st.done ∧ el rs2 i k ≠ 0 then (el rs2 i c - el rs2 st.done c * el rs2 i k % q) % q else el rs2 i c := fun i c hc => by
      show ((cleared q k st.done rs2 rs2.length).getD i []).getD c 0 = _
      rw [hr3 i, hl2]
      split
      · rename_i hi
        exact el_less_scale (n := u + 1) _ _ _ (hg2.row (by omega)) (hg2.row (by omega)) (by omega)
      · rfl
    have hr2l : rs2.length = (norm (pwf q) q k (swapped st.rs st.done p) st.done).length := by rw [h2]
    have hcl : (cleared q k st.done rs2 st.rs.length) = cleared q k st.done rs2 rs2.length := by rw [hl2, hlen]
    rw [h2, hcl]
    have hkl : k < st.lead.length := by rw [h.ll]; exact hk
    have hL : ∀ c, (st.lead.set k ((st.done : Int) + 1)).getD c 0 = if c = k then (st.done : Int) + 1 else st.lead.getD c 0 := fun c => lead_set _ _ _ _ hkl
    -- a column in which all rows from done on are 0 keeps its elements
    have hkeep : ∀ c, c < k → (∀ i, st.done ≤ i → i < m → el st.rs i c = 0) → ∀ i, i < m → el (cleared q k st.done rs2 rs2.length) i c = if i < st.done then el st.rs i c else 0 := fun c hc hz i hi => by
      have hdc : el rs2 st.done c = 0 := by rw [hd2 c (by omega), hz p hpd hpl]; simp
      have hi2 : el rs2 i c = if i < st.done then el st.rs i c else 0 := by
        by_cases e : i = st.done
        · subst e; rw [hdc, if_neg (by omega)]
        · rw [ho2 i e c]
          by_cases e2 : i < st.done
          · rw [if_neg (by omega), if_pos e2]
          · rw [if_neg e2]
            split
            · exact hz _ (Nat.le_refl _) hdl
            · exact hz i (by omega) hi
      rw [h3 i c (by omega), hdc]
      have hge := h.good.el hq1 i c
      split
      · rw [hi2]
        split
        · simp; exact Int.emod_eq_of_lt hge.1 hge.2
        · simp
      · exact hi2
    refine ⟨⟨by rw [cleared_length, hl2], Good.cleared hg2 hq1 _ _ _ (Nat.le_refl _), by show st.done + 1 ≤ m; omega, by show (st.lead.set _ _).length = u; rw [List.length_set, h.ll], fun c => ?_, fun c hc hl i hi him => ?_, fun c hc hl => ?_, fun c c' hc hc' hl he => ?_, fun d hd => ?_, fun c hc => ?_⟩, fun x => ?_⟩
    · show 0 ≤ (st.lead.set k ((st.done : Int) + 1)).getD c 0
      rw [hL]
      split
      · omega
      · exact h.nn c
    · simp only at hl hi ⊢
      rw [hL] at hl
      by_cases e : c = k
      · rw [if_pos e] at hl; omega
      · rw [if_neg e] at hl
        rw [hkeep c (by omega) (h.free c (by omega) hl) i him, if_neg (by omega)]
    · simp only at hl ⊢
      rw [hL] at hl ⊢
      by_cases e : c = k
      · subst e
        rw [if_pos rfl] at hl ⊢
        have e1 : ((st.done : Int) + 1 - 1).toNat = st.done := by omega
        refine ⟨by omega, ?_, fun i hi hne' => ?_⟩
        · rw [e1, h3 _ _ (by omega), if_neg (by omega)]; exact hdk
        · rw [e1] at hne'
          rw [h3 _ _ (by omega), hdk]
          by_cases hz : el rs2 i c = 0
          · rw [if_neg (by omega)]; exact hz
          · rw [if_pos ⟨hi, hne', hz⟩]
            have := hg2.el hq1 i c
            rw [Int.one_mul, Int.emod_eq_of_lt this.1 this.2]
            simp
      · rw [if_neg e] at hl ⊢
        have hlc := h.lead c (by omega) hl
        have hz : ∀ i, st.done ≤ i → i < m → el st.rs i c = 0 := fun i hi him => hlc.2.2 i him (by omega)
        refine ⟨by omega, ?_, fun i hi hne' => ?_⟩
        · rw [hkeep c (by omega) hz _ (by omega), if_pos (by omega)]; exact hlc.2.1
        · rw [hkeep c (by omega) hz i hi]
          split
          · exact hlc.2.2 i hi hne'
          · rfl
    · simp only at hl he
      rw [hL] at hl he
      rw [hL] at he
      by_cases e : c = k
      · by_cases e' : c' = k
        · omega
        · rw [if_pos e, if_neg e'] at he
          have := h.nn c'
          have := (h.lead c' (by omega) (by omega)).1
          omega
      · by_cases e' : c' = k
        · rw [if_neg e, if_pos e'] at he
          rw [if_neg e] at hl
          have := (h.lead c (by omega) (by omega)).1
          omega
        · rw [if_neg e] at hl he
          rw [if_neg e'] at he
          exact h.inj c c' (by omega) (by omega) hl he
    · simp only at hd ⊢
      by_cases e : d = st.done
      · exact ⟨k, by omega, by rw [hL, if_pos rfl]; omega⟩
      · obtain ⟨c, h1, h2'⟩ := h.surj d (by omega)
        exact ⟨c, by omega, by rw [hL, if_neg (by omega)]; exact h2'⟩
    · simp only
      rw [hL, if_neg (by omega)]
      exact h.rest c (by omega)
    · simp only
      refine (Sat.cleared hg2 hq1 k st.done (by omega) rs2.length (Nat.le_refl _)).trans ?_
      refine Iff.trans ?_ (Sat.swapped (i := st.done) (j := p) (by omega) (by omega))
      rw [← h2]
      unfold norm
      refine Sat.set (by omega) _ fun _ => ?_
      rw [hela]
      exact ⟨SatR.unscale (primeB_pr hq) (by rw [hdrow]; exact hplen) _ hpv.2, SatR.scale (by rw [hdrow]; exact hplen) _⟩

theorem Inv.zero {q : Int} {u : Nat} {rs : List (List Int)} (hg : Good q (u + 1) rs) : Inv q u rs.length 0 (steps (pwf q) q rs u 0) :=
  ⟨rfl, hg, Nat.zero_le _, by simp [steps], fun c => by simp [steps, List.getD, List.getElem?_replicate]; split <;> simp, fun c hc => by omega, fun c hc => by omega, fun c c' hc => by omega, fun d hd => by simp [steps] at hd, fun c _ => by simp [steps, List.getD, List.getElem?_replicate]; split <;> simp⟩
theorem Inv.all {q : Int} (hq : primeB q = true) {u : Nat} {rs : List (List Int)} (hg : Good q (u + 1) rs) : ∀ k, k ≤ u → Inv q u rs.length k (steps (pwf q) q rs u k) ∧ ∀ x, Sat q u (steps (pwf q) q rs u k).rs x ↔ Sat q u rs x
  | 0, _ => ⟨Inv.zero hg, fun _ => Iff.rfl⟩
  | k + 1, hk => by
    have ih := Inv.all hq hg k (by omega)
    have hs := ih.1.step hq (show k < u by omega)
    exact ⟨hs.1, fun x => (hs.2 x).trans (ih.2 x)⟩

theorem outOf_get (st : St) (u : Nat) {j : Nat} (hj : j < u) : (outOf st u).getD j 0 = if 0 < st.lead.getD j 0 then el st.rs (st.lead.getD j 0 - 1).toNat u else 0 := by
  simp only [outOf, List.getD, List.getElem?_map, List.getElem?_range hj, Option.map_some, Option.getD_some]

/-- solve is right. -/
theorem solve_right {q : Int} (hq : primeB q = true) {u : Nat} {rs : List (List Int)} (hg : Good q (u + 1) rs) :
    (okOf (steps (pwf q) q rs u u) u = true → Sat q u rs fun j => (outOf (steps (pwf q) q rs u u) u).getD j 0) ∧ (okOf (steps (pwf q) q rs u u) u = false → ∀ x, ¬ Sat q u rs x) := by
  obtain ⟨hI, hS⟩ := Inv.all hq hg u (Nat.le_refl _)
  have hb := prime_bd hq
  generalize steps (pwf q) q rs u u = st at *
  have hzero : ∀ i, st.done ≤ i → i < rs.length → ∀ c, c < u → el st.rs i c = 0 := fun i hi him c hc => by
    rcases Int.lt_or_le 0 (st.lead.getD c 0) with h | h
    · have hl := hI.lead c hc h
      exact hl.2.2 i him (by omega)
    · exact hI.free c hc (by have := hI.nn c; omega) i hi him
  constructor
  · intro hok
    rw [← hS]
    intro i hi
    rw [hI.len] at hi
    unfold SatR
    by_cases hd : i < st.done
    · obtain ⟨c, hc, hlc⟩ := hI.surj i hd
      have hl := hI.lead c hc (by omega)
      have e1 : (st.lead.getD c 0 - 1).toNat = i := by omega
      rw [dot_one _ _ c u hc (fun j hj hne => ?_)]
      · rw [outOf_get st u hc, if_pos (by omega), e1]
        have : (st.rs.getD i []).getD c 0 = 1 := by rw [e1] at hl; exact hl.2.1
        rw [this]
        refine ⟨0, ?_⟩
        show 1 * el st.rs i u - (st.rs.getD i []).getD u 0 = _
        unfold el
        omega
      · rw [outOf_get st u hj]
        split
        · rename_i hpos
          have hlj := hI.lead j hj hpos
          have : el st.rs i j = 0 := hlj.2.2 i hi (fun e => hne (hI.inj j c hj hc hpos (by omega)))
          show (st.rs.getD i []).getD j 0 * _ = 0
          rw [show (st.rs.getD i []).getD j 0 = el st.rs i j from rfl, this]
          simp
        · simp
    · rw [dot_zero _ _ u (fun j hj => by
        rw [show (st.rs.getD i []).getD j 0 = el st.rs i j from rfl, hzero i (by omega) hi j hj]
        simp)]
      have := okOf_el hok (show st.done ≤ i by omega) (by rw [hI.len]; exact hi)
      rw [show (st.rs.getD i []).getD u 0 = el st.rs i u from rfl, this]
      exact ⟨0, by omega⟩
  · intro hok x hx
    rw [← hS] at hx
    unfold okOf at hok
    rw [List.all_eq_false] at hok
    obtain ⟨i, hi, h0⟩ := hok
    rw [List.mem_range, hI.len] at hi
    simp at h0
    have := hx i (by rw [hI.len]; exact hi)
    unfold SatR at this
    rw [dot_zero _ _ u (fun j hj => by
      rw [show (st.rs.getD i []).getD j 0 = el st.rs i j from rfl, hzero i (by omega) hi j hj]
      simp)] at this
    have hel := hI.good.el (by omega) i u
    rw [show (st.rs.getD i []).getD u 0 = el st.rs i u from rfl] at this
    have h3 := Int.emod_eq_zero_of_dvd (Int.dvd_neg.1 (by rw [show -(el st.rs i u) = 0 - el st.rs i u by omega]; exact this))
    rw [Int.emod_eq_of_lt hel.1 hel.2] at h3
    exact h0.2 h3
end Go.Proofs.Ytneliejncfncdaa
