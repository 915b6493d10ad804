/- Texts Ra Rb in one. -/
import Derived.Test.YtneliejncfncdaaPkQa
import Derived.Test.YtneliejncfncdaaPkIe
import Derived.Test.YtneliejncfncdaaPkGa
import Derived.Test.YtneliejncfncdaaPkPd
import Derived.Test.YtneliejncfncdaaPkLa
namespace Go.Proofs.Ytneliejncfncdaa

/-- The results, with k of them turned. -/
def flipN (b0 : List Bool) (ws : List Int) (N : Nat) : Nat → List Bool
  | 0 => b0
  | k + 1 => (flipN b0 ws N k).set (ws.getD k 0 % (N : Int)).toNat (!(flipN b0 ws N k).getD (ws.getD k 0 % (N : Int)).toNat false)
theorem flipN_length (b0 : List Bool) (ws : List Int) (N : Nat) : ∀ k, (flipN b0 ws N k).length = b0.length
  | 0 => rfl
  | k + 1 => by rw [flipN, List.length_set, flipN_length b0 ws N k]

theorem unlN_cnt (a b : List Bool) : ∀ k, unlN a b k = cntN (fun p => decide (a.getD p false ≠ b.getD p false)) k
  | 0 => rfl
  | k + 1 => by
    rw [unlN, cntN, unlN_cnt a b k]
    by_cases h : a.getD k false = b.getD k false <;> simp [h]
theorem dryN_cnt (b : List Bool) (xs : List Int) : ∀ k, dryN b xs k = cntN (fun j => !b.getD (xs.getD j 0).toNat false) k
  | 0 => rfl
  | k + 1 => by
    simp only [dryN, cntN, dryN_cnt b xs k]
    rcases Bool.eq_false_or_eq_true (b.getD (xs.getD k 0).toNat false) with hb | hb <;> simp only [hb] <;> rfl
theorem cntN_mono (f g : Nat → Bool) : ∀ k, (∀ i, i < k → f i = true → g i = true) → cntN f k ≤ cntN g k
  | 0, _ => Nat.le_refl _
  | k + 1, h => by
    have := cntN_mono f g k (fun i hi => h i (by omega))
    rw [cntN, cntN]
    by_cases hf : f k = true
    · rw [if_pos hf, if_pos (h k (by omega) hf)]; omega
    · rw [if_neg hf]; split <;> omega
theorem cntN_or (f g : Nat → Bool) : ∀ k, cntN (fun i => f i || g i) k ≤ cntN f k + cntN g k
  | 0 => Nat.le_refl _
  | k + 1 => by
    have := cntN_or f g k
    simp only [cntN]
    by_cases hf : f k = true <;> by_cases hg : g k = true <;> simp [hf, hg] <;> omega
theorem cntN_not (f : Nat → Bool) : ∀ k, cntN f k + cntN (fun i => !f i) k = k
  | 0 => rfl
  | k + 1 => by
    have := cntN_not f k
    simp only [cntN]
    by_cases hf : f k = true <;> simp [hf] <;> omega
theorem cntN_false (f : Nat → Bool) : ∀ k, (∀ i, i < k → f i = false) → cntN f k = 0
  | 0, _ => rfl
  | k + 1, h => by rw [cntN, cntN_false f k (fun i hi => h i (by omega)), h k (by omega)]; rfl
theorem cntN_pos (f : Nat → Bool) : ∀ k i, i < k → f i = true → 1 ≤ cntN f k
  | 0, i, hi, _ => by omega
  | k + 1, i, hi, h => by
    rw [cntN]
    by_cases e : i = k
    · subst e; rw [if_pos h]; omega
    · have := cntN_pos f k i (by omega) h; omega
/-- One place of each block of Q places. -/
theorem cntN_blocks (g : Nat → Bool) (Q : Nat) (v : Nat → Nat) : ∀ n, (∀ j, j < n → v j < Q) → cntN (fun j => g (j * Q + v j)) n ≤ cntN g (n * Q)
  | 0, _ => by simp [cntN]
  | n + 1, h => by
    have ih := cntN_blocks g Q v n (fun j hj => h j (by omega))
    have e := cntN_add g (n * Q) Q
    rw [show (n + 1) * Q = n * Q + Q by rw [Nat.succ_mul], e]
    show cntN (fun j => g (j * Q + v j)) n + (if g (n * Q + v n) = true then 1 else 0) ≤ _
    by_cases hg : g (n * Q + v n) = true
    · have := cntN_pos (fun i => g (n * Q + i)) Q (v n) (h n (by omega)) hg
      rw [if_pos hg]; omega
    · rw [if_neg hg]; omega

theorem unlN_set (a b : List Bool) (p : Nat) (v : Bool) (N : Nat) : unlN a (b.set p v) N ≤ unlN a b N + 1 := by
  rw [unlN_cnt, unlN_cnt]
  have h1 := cntN_mono (fun i => decide (a.getD i false ≠ (b.set p v).getD i false)) (fun i => decide (a.getD i false ≠ b.getD i false) || decide (i = p)) N (fun i _ h => by
    by_cases e : i = p
    · simp [e]
    · have e2 : (b.set p v).getD i false = b.getD i false := by
        simp only [List.getD]
        rw [List.getElem?_set_ne (fun h' => e h'.symm)]
      have h' : a.getD i false ≠ (b.set p v).getD i false := by simpa only [decide_eq_true_eq] using h
      rw [e2] at h'
      simp only [Bool.or_eq_true, decide_eq_true_eq]
      exact .inl h')
  have h2 := cntN_or (fun i => decide (a.getD i false ≠ b.getD i false)) (fun i => decide (i = p)) N
  have h3 : cntN (fun i => decide (i = p)) N ≤ 1 := by
    have : ∀ k, cntN (fun i => decide (i = p)) k ≤ (if p < k then 1 else 0) := by
      intro k
      induction k with
      | zero => simp [cntN]
      | succ k ih =>
        rw [cntN]
        by_cases e : k = p
        · subst e; simp at ih ⊢; omega
        · rw [if_neg (by simpa using e)]
          split at ih <;> split <;> omega
    have := this N
    split at this <;> omega
  omega
theorem flip_far (b0 : List Bool) (ws : List Int) (N : Nat) : ∀ k, unlN b0 (flipN b0 ws N k) N ≤ k
  | 0 => by
    have : ∀ m, unlN b0 b0 m = 0 := by intro m; induction m with | zero => rfl | succ m ih => rw [unlN, ih]; simp
    rw [flipN, this]; omega
  | k + 1 => by
    have := flip_far b0 ws N k
    have := unlN_set b0 (flipN b0 ws N k) (ws.getD k 0 % (N : Int)).toNat (!(flipN b0 ws N k).getD (ws.getD k 0 % (N : Int)).toNat false) N
    rw [flipN]
    omega

/-- The place of an item in block j. -/
theorem place_nat {q : Int} (hq : 2 ≤ q) (item : Int) (t n : Nat) {j : Nat} (hj : j < n) :
    ((membersM q item t n).getD j 0).toNat = j * q.toNat + (hv q j (digs q item t)).toNat ∧ (hv q j (digs q item t)).toNat < q.toNat := by
  have hb := hv_bd (q := q) (x := (j : Int)) (by omega) (digs q item t)
  have e : (membersM q item t n).getD j 0 = (j : Int) * q + hv q j (digs q item t) := by
    unfold membersM
    rw [getD_get (by rw [membersD_length]; exact hj), membersD_get _ _ hj]
  obtain ⟨Q, rfl⟩ := Int.eq_ofNat_of_zero_le (show 0 ≤ q by omega)
  rw [e]
  obtain ⟨V, hV⟩ := Int.eq_ofNat_of_zero_le hb.1
  rw [hV]
  refine ⟨?_, by omega⟩
  rw [show ((j : Int) * Q + V) = ((j * Q + V : Nat) : Int) by push_cast; rfl, Int.toNat_natCast, Int.toNat_natCast, Int.toNat_natCast]

/-- How many pools of an item are dry changes by no more than how many results are turned. -/
theorem dry_change {q : Int} (hq : 2 ≤ q) (item : Int) (t n : Nat) (a b : List Bool) : dryN a (membersM q item t n) n ≤ dryN b (membersM q item t n) n + unlN a b (n * q.toNat) := by
  rw [dryN_cnt, dryN_cnt, unlN_cnt]
  have h1 := cntN_mono (fun j => !a.getD ((membersM q item t n).getD j 0).toNat false) (fun j => (!b.getD ((membersM q item t n).getD j 0).toNat false) || decide (a.getD ((membersM q item t n).getD j 0).toNat false ≠ b.getD ((membersM q item t n).getD j 0).toNat false)) n (fun j _ h => by
    cases hb : b.getD ((membersM q item t n).getD j 0).toNat false with
    | false => rfl
    | true => simp at h ⊢; simp [h])
  have h2 := cntN_or (fun j => !b.getD ((membersM q item t n).getD j 0).toNat false) (fun j => decide (a.getD ((membersM q item t n).getD j 0).toNat false ≠ b.getD ((membersM q item t n).getD j 0).toNat false)) n
  have h3 := cntN_blocks (fun p => decide (a.getD p false ≠ b.getD p false)) q.toNat (fun j => (hv q j (digs q item t)).toNat) n (fun j hj => (place_nat hq item t n hj).2)
  have h4 := cntN_congr (fun j => decide (a.getD ((membersM q item t n).getD j 0).toNat false ≠ b.getD ((membersM q item t n).getD j 0).toNat false)) (fun j => (fun p => decide (a.getD p false ≠ b.getD p false)) (j * q.toNat + (hv q j (digs q item t)).toNat)) n (fun j hj => by rw [(place_nat hq item t n hj).1])
  dsimp only at h1 h2 h3 h4
  omega

theorem place_lt {q : Int} (hq : 2 ≤ q) (item : Int) (t n : Nat) {j : Nat} (hj : j < n) : ((membersM q item t n).getD j 0).toNat < n * q.toNat := by
  have := place_nat hq item t n hj
  have h : (j + 1) * q.toNat ≤ n * q.toNat := Nat.mul_le_mul_right _ (by omega)
  rw [Nat.succ_mul] at h
  omega
theorem getD_mem' {l : List Int} {j : Nat} (h : j < l.length) : l.getD j 0 ∈ l := by rw [getD_get h]; exact List.getElem_mem h

/-- All pools of a leak are wet. -/
theorem dry_leak {q : Int} (hq : 2 ≤ q) (t n : Nat) (ls : List Int) {i : Int} (hi : i ∈ ls) : dryN (wetM q t n ls) (membersM q i t n) n = 0 := by
  rw [dryN_cnt]
  refine cntN_false _ _ fun j hj => ?_
  have hm : (membersM q i t n).getD j 0 ∈ membersM q i t n := getD_mem' (by rw [membersM_length]; exact hj)
  have h0 := members_nonneg hq i t n _ hm
  rw [wetM_get hq t n ls (place_lt hq i t n hj)]
  simp only [Bool.not_eq_eq_eq_not, Bool.not_false, List.any_eq_true, decide_eq_true_eq]
  exact ⟨i, hi, by rw [Int.toNat_of_nonneg h0]; exact hm⟩

theorem cntN_any (h : Int → Nat → Bool) (n c : Nat) : ∀ ls : List Int, (∀ i ∈ ls, cntN (h i) n ≤ c) → cntN (fun j => ls.any fun i => h i j) n ≤ ls.length * c
  | [], _ => by have := cntN_false (fun j => ([] : List Int).any fun i => h i j) n (fun _ _ => rfl); omega
  | a :: ls, hc => by
    have ih := cntN_any h n c ls (fun i hi => hc i (List.mem_cons_of_mem _ hi))
    have h1 := cntN_or (h a) (fun j => ls.any fun i => h i j) n
    have h2 := hc a (by simp)
    simp only [List.any_cons, List.length_cons, Nat.succ_mul]
    omega

/-- Of an item that does not leak enough pools are dry. -/
theorem dry_other {q : Int} (hq : primeB q = true) {t n : Nat} (ht : 1 ≤ t) (hn : (n : Int) ≤ q) (ls : List Int) (hls : ∀ i ∈ ls, 0 ≤ i ∧ i < q ^ t) {i : Int} (hi : 0 ≤ i ∧ i < q ^ t) (hne : i ∉ ls) :
    n ≤ dryN (wetM q t n ls) (membersM q i t n) n + ls.length * (t - 1) := by
  have hp := prime_bd hq
  rw [dryN_cnt]
  have h1 := cntN_not (fun j => (wetM q t n ls).getD ((membersM q i t n).getD j 0).toNat false) n
  have h2 := cntN_congr (fun j => (wetM q t n ls).getD ((membersM q i t n).getD j 0).toNat false) (fun j => ls.any fun l => decide ((membersM q i t n).getD j 0 ∈ membersM q l t n)) n (fun j hj => by
    rw [wetM_get hp.1 t n ls (place_lt hp.1 i t n hj)]
    have hm : (membersM q i t n).getD j 0 ∈ membersM q i t n := getD_mem' (by rw [membersM_length]; exact hj)
    rw [Int.toNat_of_nonneg (members_nonneg hp.1 i t n _ hm)])
  have h3 := cntN_any (fun l j => decide ((membersM q i t n).getD j 0 ∈ membersM q l t n)) n (t - 1) ls (fun l hl => share_count hq hn ht hi (hls l hl) (fun e => hne (e ▸ hl)))
  omega

theorem findM_listN (q : Int) (t n : Nat) (b : List Bool) (e : Int) : ∀ k, findM q t n b e k = listN (fun i => decide ((dryN b (membersM q i t n) n : Int) ≤ e)) k
  | 0 => rfl
  | k + 1 => by
    rw [findM, listN, findM_listN q t n b e k]
    by_cases h : (dryN b (membersM q k t n) n : Int) ≤ e <;> simp [h]
theorem listN_mem (f : Nat → Bool) (z : Int) : ∀ k, z ∈ listN f k ↔ ∃ i : Nat, i < k ∧ f i = true ∧ z = i
  | 0 => by simp [listN]
  | k + 1 => by
    rw [listN]
    split
    · rename_i h
      rw [List.mem_append, listN_mem f z k, List.mem_singleton]
      constructor
      · rintro (⟨i, h1, h2, h3⟩ | h1)
        · exact ⟨i, by omega, h2, h3⟩
        · exact ⟨k, by omega, h, h1⟩
      · rintro ⟨i, h1, h2, h3⟩
        by_cases e : i = k
        · subst e; exact .inr h3
        · exact .inl ⟨i, by omega, h2, h3⟩
    · rename_i h
      rw [listN_mem f z k]
      constructor
      · rintro ⟨i, h1, h2, h3⟩; exact ⟨i, by omega, h2, h3⟩
      · rintro ⟨i, h1, h2, h3⟩
        by_cases e : i = k
        · subst e; exact absurd h2 h
        · exact ⟨i, by omega, h2, h3⟩
theorem sorted_ext : ∀ (l r : List Int) (z : Int) (A B : Int), rsB A z l = true → rsB B z r = true → (∀ x, x ∈ l ↔ x ∈ r) → l = r
  | [], [], _, _, _, _, _, _ => rfl
  | [], y :: r, _, _, _, _, _, h => by have := (h y).2 (by simp); simp at this
  | x :: l, [], _, _, _, _, _, h => by have := (h x).1 (by simp); simp at this
  | x :: l, y :: r, z, A, B, h1, h2, h => by
    rw [rsB] at h1 h2
    simp only [Bool.and_eq_true, decide_eq_true_eq] at h1 h2
    have b1 : ∀ u ∈ l, x < u := fun u hu => by
      obtain ⟨k, hk, rfl⟩ := List.mem_iff_getElem.1 hu
      exact (rsB_bd l x h1.2 k hk).1
    have b2 : ∀ u ∈ r, y < u := fun u hu => by
      obtain ⟨k, hk, rfl⟩ := List.mem_iff_getElem.1 hu
      exact (rsB_bd r y h2.2 k hk).1
    have hxy : x = y := by
      rcases List.mem_cons.1 ((h x).1 (by simp)) with h3 | h3
      · exact h3
      · rcases List.mem_cons.1 ((h y).2 (by simp)) with h4 | h4
        · exact h4.symm
        · have := b1 _ h4; have := b2 _ h3; omega
    subst hxy
    rw [sorted_ext l r x A B h1.2 h2.2 fun u => ?_]
    constructor
    · intro hu
      rcases List.mem_cons.1 ((h u).1 (List.mem_cons_of_mem _ hu)) with h3 | h3
      · have := b1 u hu; omega
      · exact h3
    · intro hu
      rcases List.mem_cons.1 ((h u).2 (List.mem_cons_of_mem _ hu)) with h3 | h3
      · have := b2 u hu; omega
      · exact h3

/-- Find never misses a leak. -/
theorem find_has {q : Int} (hq : 2 ≤ q) (t n I : Nat) (ls : List Int) (b : List Bool) (e : Nat) (hf : unlN (wetM q t n ls) b (n * q.toNat) ≤ e) {i : Int} (hi : i ∈ ls) (hI : 0 ≤ i ∧ i < I) : i ∈ findM q t n b e I := by
  rw [findM_listN, listN_mem]
  refine ⟨i.toNat, by omega, ?_, by omega⟩
  have h1 := dry_change hq i t n b (wetM q t n ls)
  rw [unlN_comm, dry_leak hq t n ls hi] at h1
  rw [show ((i.toNat : Nat) : Int) = i by omega]
  simp
  omega
/-- Find returns just the leaks. -/
theorem find_just {q : Int} (hq : primeB q = true) {t n : Nat} (ht : 1 ≤ t) (hn : (n : Int) ≤ q) (I : Nat) (hI : (I : Int) = q ^ t) (ls : List Int) (hr : rsB I (-1) ls = true) (b : List Bool) (e : Nat)
    (hf : unlN (wetM q t n ls) b (n * q.toNat) ≤ e) (hs : ls.length * (t - 1) + 2 * e + 1 ≤ n) : findM q t n b e I = ls := by
  have hp := prime_bd hq
  have hb := rsB_bd ls (-1) hr
  have hls : ∀ i ∈ ls, 0 ≤ i ∧ i < (I : Int) := fun i hi => by
    obtain ⟨k, hk, rfl⟩ := List.mem_iff_getElem.1 hi
    have := hb k hk
    omega
  have hr2 := (listN_rise (fun i => decide ((dryN b (membersM q i t n) n : Int) ≤ e)) I I (Nat.le_refl _)).1
  rw [findM_listN]
  refine sorted_ext _ _ (-1) I I hr2 hr fun x => ?_
  rw [listN_mem]
  constructor
  · rintro ⟨i, h1, h2, rfl⟩
    have h2 : (dryN b (membersM q i t n) n : Int) ≤ e := by simpa using h2
    rcases Classical.em ((i : Int) ∈ ls) with h | h
    · exact h
    · exfalso
      have h3 := dry_other hq ht hn ls (fun j hj => by have := hls j hj; omega) (i := (i : Int)) ⟨by omega, by omega⟩ h
      have h4 := dry_change hp.1 (i : Int) t n (wetM q t n ls) b
      omega
  · intro hx
    have := hls x hx
    have h5 := find_has hp.1 t n I ls b e hf hx this
    rw [findM_listN, listN_mem] at h5
    exact h5
/-- The strength is enough. -/
theorem strength_enough {I t n e : Int} (L : Nat) (ht : 1 ≤ t) (he : 0 ≤ e) (hn : 0 ≤ n) (hs : 0 ≤ strG I t n e) (hL : (L : Int) ≤ strG I t n e) : (L : Int) * (t - 1) + 2 * e + 1 ≤ n := by
  unfold strG at hs hL
  by_cases h1 : n ≤ 2 * e
  · rw [if_pos h1] at hs; omega
  · rw [if_neg h1] at hs hL
    by_cases h2 : t = 1
    · subst h2; simp; omega
    · rw [if_neg h2] at hs hL
      have h3 : (L : Int) * (t - 1) ≤ (n - 1 - 2 * e) / (t - 1) * (t - 1) := Int.mul_le_mul_of_nonneg_right hL (by omega)
      have h4 := Int.ediv_mul_le (n - 1 - 2 * e) (show t - 1 ≠ 0 by omega)
      omega
end Go.Proofs.Ytneliejncfncdaa

namespace Go.Proofs.Ytneliejncfncdaa
open Go.RowKit

theorem Box.grownR {w : World} {q t n : Int} {W W' : World} {B : Nat} {r : Option Nat} (h : Box w q t n W) (o : Obj) (hB : w.heap.size + 1 ≤ B) (hgr : (W.alloc o).grownBy W' r) (hr : ∀ k, r = some k → B ≤ k) : Box w q t n W' := by
  have hsz := hgr.size
  simp at hsz
  have hk : ∀ k, k ≤ w.heap.size → W'.heap[k]? = W.heap[k]? := fun k hk => (hgr.block k (by have := h.lt; simp; omega) (fun e => by have := hr k e.symm; omega)).trans (Below.heap_alloc _ _ _ (by have := h.lt; omega))
  refine ⟨(World.cell?_of_block (hk _ (Nat.le_refl _))).trans h.k0, (World.cell?_of_block (hk _ (Nat.le_refl _))).trans h.k1, (World.cell?_of_block (hk _ (Nat.le_refl _))).trans h.k2, by have := h.lt; omega, ?_⟩
  exact ⟨hgr.os.trans h.below.os, hgr.tape.trans h.below.tape, hgr.output.trans h.below.output, by have := h.below.size; omega, fun k hk' => (hk k (by omega)).trans (h.below.block k hk')⟩
theorem strG_ge {I t n e : Int} (hI : 0 ≤ I) (ht : 1 ≤ t) (hn : 0 ≤ n) : -1 ≤ strG I t n e := by
  unfold strG
  split
  · omega
  · split
    · omega
    · have := Int.ediv_nonneg (show 0 ≤ n - 1 - 2 * e by omega) (show 0 ≤ t - 1 by omega)
      omega

section
variable (q0 t0 n0 : Int) (R : Option Addr) (M cR : Nat) (rs : List Bool) (A : Option Addr) (m c : Nat) (xs : List Int) (e0 : Int) (C : Option Addr) (cC nC : Nat) (ws : List Int) (w : World)

set_option maxRecDepth 100000 in
set_option maxHeartbeats 6400000 in
theorem found_any (hq0 : I64 q0) (ht0 : I64 t0) (hn0 : I64 n0) (_ : rs.length = M) (_ : M ≤ cR) (_ : R = none → cR = 0) (_ : Bools w R rs)
    (hA : Ints w A xs) (hn : xs.length = m) (_ : m ≤ c) (_ : A = none → c = 0) (hx : ∀ x ∈ xs, I64 x) (he0 : I64 e0)
    (hC : Ints w C ws) (hm : ws.length = nC) (_ : nC ≤ cC) (_ : C = none → cC = 0) (hy : ∀ x ∈ ws, I64 x) :
    Calls Try.prog 16 #[pools q0 t0 n0, .agg #[.slice R M cR, .slice A m c, .int .i64 e0], .slice C nC cC] w (Said true w) := by
  have c24 : ∀ W, Calls Try.prog 24 #[pools q0 t0 n0] W fun e w' => e = .returned (pools (tameQ q0) (tameT q0 t0) (tameN q0 t0 n0)) ∧ Below W.heap.size W w' := fun W => tamed_any q0 t0 n0 W hq0 ht0 hn0
  have hf := tame_facts q0 t0 n0
  obtain ⟨f1, f2, f3, f4, f5, f6, f7, f8⟩ := hf
  have hpow := tame_pow ⟨f2, f3⟩ ⟨f4, f5⟩
  generalize tameN q0 t0 n0 = n at *
  generalize tameT q0 t0 = t at *
  generalize tameQ q0 = q at *
  obtain ⟨tn, rfl⟩ : ∃ tn : Nat, t = tn := ⟨t.toNat, by omega⟩
  obtain ⟨nn, rfl⟩ : ∃ nn : Nat, n = nn := ⟨n.toNat, by omega⟩
  rw [Int.toNat_natCast] at hpow
  have c26e : ∀ W, Calls Try.prog 26 #[.int .i64 e0, .int .i64 3] W fun e w' => e = .returned (.int .i64 (e0 % 3)) ∧ W = w' := fun W => (fold_any e0 3 W he0 ⟨by omega, by omega⟩).mono fun e w' h => ⟨h.1, h.2.symm⟩
  have hE1 := Int.emod_nonneg e0 (show (3 : Int) ≠ 0 by omega)
  have hE2 := Int.emod_lt_of_pos e0 (show (0 : Int) < 3 by omega)
  generalize e0 % 3 = E' at *
  obtain ⟨E, rfl⟩ : ∃ E : Nat, E' = E := ⟨E'.toNat, by omega⟩
  have hI := items_pos_of (q := q) (t := tn) (n := nn) f1 ⟨by omega, by omega⟩ ⟨by omega, by omega⟩ (by omega)
  have c25 : ∀ W, Calls Try.prog 25 #[pools q tn nn] W fun e w' => e = .returned (.int .i64 (q ^ tn)) ∧ Below W.heap.size W w' := fun W => Items_good f1 ⟨by omega, by omega⟩ (by omega) W
  have hpos : 0 < q ^ tn := Int.pow_pos (by omega)
  obtain ⟨N, hN⟩ : ∃ N, nn * q.toNat = N := ⟨_, rfl⟩
  have hNI : ((N : Nat) : Int) = nn * q := by rw [← hN, Int.natCast_mul, show ((q.toNat : Nat) : Int) = q by omega]
  have hnq1 : 0 < (nn : Int) * q := Int.mul_pos (by omega) (by omega)
  have hnq2 : (nn : Int) * q ≤ 7 * 7 := Int.mul_le_mul (by omega) f3 (by omega) (by omega)
  have c45 : ∀ W, Calls Try.prog 45 #[pools q tn nn, .int .i64 E] W fun e' w' => e' = .returned (.tuple #[.int .i64 (strG (q ^ tn) tn nn E), .int .i64 0]) ∧ Below W.heap.size W w' := fun W => by
    have := Strength_any q tn nn E W
    have e : strR q tn nn E = (strG (q ^ tn) tn nn E, 0) := by unfold strR; rw [hI, if_neg (by omega)]
    rwa [e] at this
  have c42 : ∀ (l : List Int) W A c, rsB (q ^ tn) (-1) l = true → l.length ≤ 1000 → Ints W A l → Calls Try.prog 42 #[pools q tn nn, .slice A l.length c] W fun e w' => ∃ g : Nat, e = .returned (.tuple #[.slice (some ⟨g, 0, none⟩) N N, .int .i64 0]) ∧ OwnB w' (W.heap.size + 1) (.slice (some ⟨g, 0, none⟩) N N) N (wetM q tn nn l) ∧ Below W.heap.size W w' := fun l W A c hr hll hJ => Wet_good q (q ^ tn) tn nn l.length N A c l W ⟨by omega, by omega⟩ (by omega) ⟨by omega, by omega⟩ hN hI ⟨hpos, by omega⟩ hJ rfl (by omega) hr
  have hwl : ∀ l, (wetM q tn nn l).length = N := fun l => by rw [wetM_length, hN]
  have c52 : ∀ (b : List Bool) A c W, b.length = N → Bools W A b → Calls Try.prog 52 #[pools q tn nn, .slice A N c, .int .i64 E] W (Ret2 (findM q tn nn b E (q ^ tn).toNat) 0 W) := fun b A c W hbl hJ => Find_good q (q ^ tn) E tn nn N A c b W ⟨by omega, by omega⟩ (by omega) ⟨by omega, by omega⟩ hN hI ⟨hpos, by omega⟩ hJ hbl ⟨by omega, by omega⟩
  have hhas := fun (I : Nat) (ls : List Int) (b : List Bool) hf (i : Int) hi hI => find_has (q := q) f2 tn nn I ls b E hf (i := i) hi hI
  have hjust := fun (I : Nat) hI (ls : List Int) hr (b : List Bool) hf hs => find_just (q := q) f1 (t := tn) (n := nn) (by omega) (by omega) I hI ls hr b E hf hs
  have hge := strG_ge (I := q ^ tn) (t := tn) (n := nn) (e := E) (by omega) (by omega) (by omega)
  have hen := fun (L : Nat) h1 h2 => strength_enough (I := q ^ tn) (t := tn) (n := nn) (e := E) L (by omega) (by omega) (by omega) h1 h2
  rw [hN] at hhas hjust
  generalize hI' : q ^ tn = I at *
  obtain ⟨In, rfl⟩ : ∃ In : Nat, I = In := ⟨I.toNat, by omega⟩
  rw [Int.toNat_natCast] at c52
  have hIb : In ≤ 343 := by omega
  generalize strG (In : Int) tn nn E = S at *
  have HN := Lib.hid hn
  have HM := Lib.hid hm
  have HNI := Lib.hid hNI
  have c26 : ∀ x, I64 x → ∀ W, Calls Try.prog 26 #[.int .i64 x, .int .i64 In] W fun e w' => e = .returned (.int .i64 (x % In)) ∧ W = w' := fun x hx W => (fold_any x In W hx ⟨by omega, by omega⟩).mono fun e w' h => ⟨h.1, h.2.symm⟩
  have hN1 : 1 ≤ N := by omega
  have hN49 : N ≤ 49 := by omega
  have c26n : ∀ x, I64 x → ∀ W, Calls Try.prog 26 #[.int .i64 x, .int .i64 N] W fun e w' => e = .returned (.int .i64 (x % N)) ∧ W = w' := fun x hx W => (fold_any x N W hx ⟨by omega, by omega⟩).mono fun e w' h => ⟨h.1, h.2.symm⟩
  have HHAS := Lib.hid hhas
  have HJUST := Lib.hid hjust
  have HEN := Lib.hid hen
  have HWL := Lib.hid hwl
  have HX := Lib.hid hx
  have HY := Lib.hid hy
  have HI := Lib.hid hI'
  clear hn hm hx hy hI hI' hpow hNI hN hwl hhas hjust hen
  obtain ⟨W0, hW0⟩ : ∃ W0, W0 = (w.alloc (.cells #[.int .i64 q0, .int .i64 t0, .int .i64 n0] 35)).alloc (.cells #[.slice R M cR, .slice A m c, .int .i64 e0] 78) := ⟨_, rfl⟩
  have hb0 : Below w.heap.size w W0 := by rw [hW0]; exact ((Below.refl _ _).alloc (Nat.le_refl _) _).alloc (by simp) _
  have hs0 : W0.heap.size = w.heap.size + 2 := by rw [hW0]; simp
  have p1 : W0.cell? ⟨w.heap.size + 1, 1, none⟩ = some (.slice A m c) := by rw [hW0]; simp [go_sem]
  have p2 : W0.cell? ⟨w.heap.size + 1, 2, none⟩ = some (.int .i64 e0) := by rw [hW0]; simp [go_sem]
  have HW0 := Lib.hid hW0
  clear hW0
  go_enter Try.func16, Try.ntmps16
  go_wp2_with fail
  rw [← HW0.out]
  refine (c24 _).mono ?_
  rintro e w1 ⟨rfl, hb1⟩
  have g1 := (hb1.cell (p := ⟨w.heap.size + 1, 1, none⟩) (by simp; omega)).trans p1
  have g2 := (hb1.cell (p := ⟨w.heap.size + 1, 2, none⟩) (by simp; omega)).trans p2
  have hs1 := hb1.size
  have hB1 := hb0.trans (hb1.mono (by omega))
  have hsz1 := hB1.size
  have hX1 := Box.new w1 q tn nn
  clear p1 p2 hb0 hb1 c24 HW0
  have z2 := (hX1.below.cell (p := ⟨w.heap.size + 1, 2, none⟩) (by simp; omega)).trans g2
  go_wp2_with (go_at_call 26; refine (c26e _).mono ?_; rintro e w' ⟨rfl, rfl⟩)
  refine (c45 _).mono ?_
  rintro e w2 ⟨rfl, hb2⟩
  have hX2 := hX1.step hb2
  clear hb2 hX1 z2
  have hSd : decide (S < -1) = false := decide_eq_false (by omega)
  go_wp2_with fail
  refine (lives_any _).mono ?_
  rintro e w3 ⟨rfl, hb3⟩
  have hX3 := hX2.step hb3
  clear hb3 hX2 hSd
  have hlt3 := hX3.lt
  have hown0 := (ownI_lit w3 (w1.heap.size + 1) (by omega))
  have hX4 := hX3.step ((Below.refl _ _).alloc (Nat.le_refl _) (.cells #[] 3))
  go_wp2
  go_loopw [11, 12] (fun v i wr => ∃ k : Nat, k ≤ m ∧ k ≤ 12 ∧ i = .int .i64 k ∧ OwnI wr (w1.heap.size + 1) v (risers In xs k).length (risers In xs k) ∧ Box w1 q tn nn wr) (fun _ i _ => m - (intOf i).toNat)
  case atStart => exact ⟨0, by omega, by omega, rfl, hown0, hX4⟩
  case round =>
    clear hown0 hX4 hX3 hlt3
    obtain ⟨k, hk, hk12, rfl, hown, hX⟩ := hrel
    have hrl := risers_len In xs k
    have z1 := (hX.below.cell (p := ⟨w.heap.size + 1, 1, none⟩) (by simp; omega)).trans g1
    have hltX := hX.lt
    by_cases hgo : k < m ∧ k < 12
    · obtain ⟨hlt, hl12⟩ := hgo
      obtain ⟨b, o, rfl, hb, hc⟩ := (hA.below (hB1.trans (hX.below.mono hsz1))).get (k := k) (by rw [HN.out]; exact hlt)
      have hin : I64 (xs[k]'(by rw [HN.out]; exact hlt)) := HX.out _ (List.getElem_mem _)
      have hrs : risers In xs (k + 1) = if risers In xs k = [] ∨ (risers In xs k).getLastD 0 < xs[k]'(by rw [HN.out]; exact hlt) % In then risers In xs k ++ [xs[k]'(by rw [HN.out]; exact hlt) % In] else risers In xs k := by
        rw [risers, show xs.getD k 0 = xs[k]'(by rw [HN.out]; exact hlt) by simp [List.getD, show k < xs.length by rw [HN.out]; exact hlt]]
      have c1 := c26 _ hin
      generalize xs[k]'(by rw [HN.out]; exact hlt) = x at *
      generalize x % (In : Int) = y at *
      obtain ⟨A5, c5, rfl, hI⟩ := hown.lie'
      have hIo := hown
      clear hown
      generalize hSE : risers In xs k = SL at *
      have HSS := Lib.hid hSE
      clear hSE
      obtain ⟨L, hL⟩ : ∃ L, SL.length = L := ⟨_, rfl⟩
      rw [hL] at hIo hrl ⊢
      have HRS := Lib.hid hrs
      have HL := Lib.hid hL
      clear hrs hL
      have k0 := hX.k0
      have k1 := hX.k1
      have k2 := hX.k2
      go_wp2
      refine Lex.wp_region_lex (fun w' => w'.cell? ⟨w.heap.size + 1, 1, none⟩ = some (.slice (some ⟨b, o, none⟩) m c) ∧ w'.cell? ⟨b, o + k, none⟩ = some (.int .i64 x) ∧ w'.cell? ⟨w1.heap.size, 0, none⟩ = some (.int .i64 q) ∧ w'.cell? ⟨w1.heap.size, 1, none⟩ = some (.int .i64 tn) ∧ w'.cell? ⟨w1.heap.size, 2, none⟩ = some (.int .i64 nn)) (fun j => j != 8)
        [(0, true), (1, true), (2, true), (3, true), (4, true), (5, true), (6, false), (7, false), (8, false)]
        (by kernel_rfl) (by kernel_rfl) (by kernel_rfl) (by kernel_rfl) ⟨z1, hc, k0, k1, k2⟩ ?_
      iterate 6 (refine Lex.lex_take (v := ?_) rfl rfl (by rfl) (fun _ hS => ?_) ?_; rotate_left 1; (focus (go_split_ands; go_simp; with_reducible rfl)); simp only [List.setIfInBounds_toArray, List.set_cons_zero, List.set_cons_succ])
      refine Lex.lex_do rfl ?_
      go_wp2_with fail
      refine (c25 _).mono ?_
      rintro e w4 ⟨rfl, hb4⟩
      have hb4' : Below wr.heap.size wr w4 := ⟨hb4.os, hb4.tape, hb4.output, hb4.size, hb4.block⟩
      have hc4 := (hb4'.cell (p := ⟨b, o + k, none⟩) hb).trans hc
      have z4 := (hb4'.cell (p := ⟨w.heap.size + 1, 1, none⟩) (by simp; omega)).trans z1
      have hX4 := hX.step hb4'
      have hO4 := hIo.below hb4'
      have hI4 := hI.below hb4'
      have hlt4 := hX4.lt
      clear hb4 hb4' k0 k1 k2 hc z1 hX hIo hI
      have k0 := hX4.k0
      have k1 := hX4.k1
      have k2 := hX4.k2
      go_wp2_with fail
      refine Lex.lexQ_normal (fun _ => ⟨z4, hc4, k0, k1, k2⟩) ?_
      refine Lex.lex_do rfl ?_
      go_wp2_with fail
      refine (c1 _).mono ?_
      rintro e w5 ⟨rfl, rfl⟩
      go_wp2_with fail
      refine Lex.lexQ_normal (fun _ => ⟨z4, hc4, k0, k1, k2⟩) ?_
      refine Lex.lex_do rfl ?_
      go_wp2_with fail
      refine Lex.lexQ_normal (fun h => absurd h (by decide)) ?_
      refine Lex.lex_nil ?_
      clear k0 k1 k2 hc4 z4
      cases L with
      | zero =>
        have hS0 : SL = [] := List.eq_nil_of_length_eq_zero HL.out
        have hrs := HRS.out
        rw [if_pos (.inl hS0)] at hrs
        have hl1 : (risers In xs (k + 1)).length = 1 := by rw [hrs]; simp [HL.out]
        have HRS2 := Lib.hid hrs
        have HL1 := Lib.hid hl1
        clear hrs hl1 hS0
        go_wp2_with (at_builtin; refine wpList_int _ rfl _ _ rfl (w1.heap.size + 1) _ 0 SL rfl (hO4.alloc _) w4.heap.size y rfl (heap_alloc_new w4 _) (by omega) (by simp; omega) (w4.heap.size + 1) (by simp) ?_)
        intro g cap w6 ho6 hgr hat hlt6
        have hX6 := hX4.grownR _ (Nat.le_refl _) hgr (fun k hk => (hO4.lt k hk).1)
        clear hgr hat hO4 hX4 hI4
        go_wp2
        go_roundw
        case rel => exact ⟨k + 1, by omega, by omega, by go_num, by rw [HL1.out, HRS2.out]; exact ho6, hX6⟩
        case measure => simp [intOf]; omega
      | succ n =>
        have hSn := HL.out
        have hne : SL ≠ [] := by intro h; rw [h] at hSn; simp at hSn
        obtain ⟨b5, o5, rfl, hb5, hc5⟩ := hI4.get (k := n) (by omega)
        have hrs := HRS.out
        rw [getLast_get hSn] at hrs
        generalize SL[n]'(by omega) = z at *
        by_cases hyz : z < y
        · rw [if_pos (.inr hyz)] at hrs
          have hl1 : (risers In xs (k + 1)).length = n + 1 + 1 := by rw [hrs]; simp [hSn]
          have HRS2 := Lib.hid hrs
          have HL1 := Lib.hid hl1
          clear hrs hl1 hSn hne
          go_wp2_with (at_builtin; refine wpList_int _ rfl _ _ rfl (w1.heap.size + 1) _ (n + 1) SL rfl (hO4.alloc _) w4.heap.size y rfl (heap_alloc_new w4 _) (by omega) (by simp; omega) (w4.heap.size + 1) (by simp) ?_)
          intro g cap w6 ho6 hgr hat hlt6
          have hX6 := hX4.grownR _ (Nat.le_refl _) hgr (fun k hk => (hO4.lt k hk).1)
          clear hgr hat hO4 hX4 hI4 hc5
          go_wp2
          go_roundw
          case rel => exact ⟨k + 1, by omega, by omega, by go_num, by rw [HL1.out, HRS2.out]; exact ho6, hX6⟩
          case measure => simp [intOf]; omega
        · rw [if_neg (by rintro (h | h); exact hne h; exact hyz h)] at hrs
          have HRS2 := Lib.hid hrs
          have hd : decide (z < y) = false := decide_eq_false hyz
          clear hrs hSn hne
          go_wp2
          go_roundw
          case rel => exact ⟨k + 1, by omega, by omega, by go_num, by rw [HRS2.out, HL.out]; exact hO4, hX4⟩
          case measure => simp [intOf]; omega
    · have hrise : rsB In (-1) (risers In xs k) = true := risers_rise (by omega) xs k
      obtain ⟨A5, c5, rfl, hI⟩ := hown.lie'
      have hxs2 := HEN.out (risers In xs k).length
      generalize risers In xs k = SL at *
      have c42l := fun W A c => c42 SL W A c hrise (by omega)
      have hwl := HWL.out SL
      have hhas := fun b hf i hi => HHAS.out In SL b hf i hi
      have hjust := fun b hf hs => HJUST.out In rfl SL hrise b hf hs
      have hbds := rsB_bd SL (-1) hrise
      have hmem : ∀ i ∈ SL, 0 ≤ i ∧ i < (In : Int) := fun i hi => by
        obtain ⟨j, hj, rfl⟩ := List.mem_iff_getElem.1 hi
        have := hbds j hj
        omega
      generalize wetM q tn nn SL = WM at *
      have HH := Lib.hid hhas
      have HJ := Lib.hid hjust
      have HME := Lib.hid hmem
      have HXS := Lib.hid hxs2
      have HWM := Lib.hid hwl
      have hff := fun k => flip_far WM ws N k
      have hflen := fun k => flipN_length WM ws N k
      have HFF := Lib.hid hff
      have HFL := Lib.hid hflen
      obtain ⟨L, hL⟩ : ∃ L, SL.length = L := ⟨_, rfl⟩
      rw [hL] at c42l hrl ⊢
      have HL := Lib.hid hL
      clear hhas hjust hmem hbds hxs2 hwl hff hflen hrise hown HWL HHAS HJUST HEN c42 hL c26 HX z1
      have hcond : (k = m ∨ k < m ∧ k = 12) := by
        by_cases h1 : k = m
        · exact .inl h1
        · by_cases h2 : k = 12
          · exact .inr ⟨by omega, h2⟩
          · exact absurd ⟨by omega, by omega⟩ hgo
      have z1 := (hX.below.cell (p := ⟨w.heap.size + 1, 1, none⟩) (by simp; omega)).trans g1
      clear hgo
      have k0 := hX.k0
      have k1 := hX.k1
      have k2 := hX.k2
      have hwr : IntKind.i64.wrap ((nn : Int) * q) = nn * q := IntWalk.i64_in _ (by omega)
      have hne1 : ((N : Int) == nn * q) = true := by rw [HNI.out]; simp
      have hne2 : ((N : Int) != nn * q) = false := by rw [HNI.out]; simp
      rcases hcond with h1 | ⟨h1, h2⟩
      · subst h1
        go_wp2_with fail
        refine (c42l _ _ _ hI).mono ?_
        rintro e w4 ⟨g, rfl, hoB, hb4⟩
        have hX4 := hX.step hb4
        have hI4 := Ints.below hI hb4
        have hbase : w1.heap.size + 1 ≤ wr.heap.size + 1 := by have := hX.lt; omega
        have hgb := (hoB.lt g rfl).1
        have HI4 := Lib.hid hI4
        have HIW := Lib.hid hI
        have HBW := Lib.hid hb4
        have HXW := Lib.hid hX
        clear k0 k1 k2 z1 hb4 hX hI
        have k0 := hX4.k0
        have k1 := hX4.k1
        have k2 := hX4.k2
        go_wp2
        obtain ⟨wo, rfl⟩ : ∃ wo, wo = wr := ⟨_, rfl⟩
        go_loopw [16] (fun i wr => ∃ p : Nat, p ≤ nC ∧ p ≤ E ∧ i = .int .i64 p ∧ OwnB wr (wo.heap.size + 1) (.slice (some ⟨g, 0, none⟩) N N) N (flipN WM ws N p) ∧ Below wo.heap.size wo wr) (fun i _ => nC - (intOf i).toNat)
        case atStart => exact ⟨0, by omega, by omega, rfl, hoB, HBW.out⟩
        case round =>
          clear hoB hX4 k0 k1 k2 HI4 hI4
          obtain ⟨p, hp, hpE, rfl, ho, hb⟩ := hrel
          have hXr := HXW.out.step hb
          by_cases hgo : p < nC ∧ p < E
          · obtain ⟨hp1, hp2⟩ := hgo
            obtain ⟨bc, oc, rfl, hbc, hcc⟩ := (hC.below (hB1.trans (hXr.below.mono hsz1))).get (k := p) (by rw [HM.out]; exact hp1)
            have hfs : flipN WM ws N (p + 1) = (flipN WM ws N p).set (ws.getD p 0 % (N : Int)).toNat (!(flipN WM ws N p).getD (ws.getD p 0 % (N : Int)).toNat false) := rfl
            have hfl := HFL.out p
            rw [HWM.out] at hfl
            rw [show ws.getD p 0 = ws[p]'(by rw [HM.out]; exact hp1) by simp [List.getD, show p < ws.length by rw [HM.out]; exact hp1]] at hfs
            have cf := c26n _ (HY.out _ (List.getElem_mem (l := ws) (n := p) (by rw [HM.out]; exact hp1)))
            generalize ws[p]'(by rw [HM.out]; exact hp1) = x at *
            have hy1 := Int.emod_nonneg x (show (N : Int) ≠ 0 by omega)
            have hy2 := Int.emod_lt_of_pos x (show (0 : Int) < N by omega)
            generalize x % (N : Int) = y at *
            obtain ⟨yn, rfl⟩ : ∃ yn : Nat, y = yn := ⟨y.toNat, by omega⟩
            rw [Int.toNat_natCast] at hfs
            have hyN : yn < N := by omega
            have hfz := ho.frozen yn
            have hget := ho.get (k := yn) (by rw [hfl]; exact hyN)
            rw [show (flipN WM ws N p).getD yn false = (flipN WM ws N p)[yn]'(by rw [hfl]; exact hyN) by simp [List.getD, show yn < (flipN WM ws N p).length by rw [hfl]; exact hyN]] at hfs
            generalize (flipN WM ws N p)[yn]'(by rw [hfl]; exact hyN) = bv at *
            have HFS := Lib.hid hfs
            have HFLn := Lib.hid hfl
            clear hfs hfl hXr
            cases bv with
            | true =>
              go_wp2_with (go_at_call 26; refine (cf _).mono ?_; rintro e w' ⟨rfl, rfl⟩)
              go_roundw
              case rel => exact ⟨p + 1, by omega, by omega, by go_num, by rw [HFS.out]; exact ho.set yn false, hb.setCell (by simp; omega) _⟩
              case measure => simp [intOf]; omega
            | false =>
              go_wp2_with (go_at_call 26; refine (cf _).mono ?_; rintro e w' ⟨rfl, rfl⟩)
              go_roundw
              case rel => exact ⟨p + 1, by omega, by omega, by go_num, by rw [HFS.out]; exact ho.set yn true, hb.setCell (by simp; omega) _⟩
              case measure => simp [intOf]; omega
          · have hfar := HFF.out p
            have hfarE : unlN WM (flipN WM ws N p) N ≤ E := by omega
            have hbl := HFL.out p
            rw [HWM.out] at hbl
            have hhas := fun i hi => HH.out _ hfarE i hi
            have hjust := HJ.out _ hfarE
            have c52b := fun A c W => c52 _ A c W hbl
            have hIr := Ints.below HIW.out hb
            have hbB := ho.bools
            have c53 : ∀ W c d, Ints W A5 SL → Bools W (some ⟨g, 0, none⟩) (flipN WM ws N p) → Calls Try.prog 53 #[pools q tn nn, .slice (some ⟨g, 0, none⟩) N d, .slice A5 L c] W (RetII (unlN WM (flipN WM ws N p) N : Nat) 0 W) := fun W c d hJ hK =>
              Explains_good q tn nn A5 (some ⟨g, 0, none⟩) c d L N SL WM (flipN WM ws N p) W HL.out hJ hK hbl (by omega) HWM.out (fun W A c hJ2 => (c42l W A c hJ2).mono fun e w' ⟨g, he, ho, hb⟩ => ⟨some ⟨g, 0, none⟩, N, by rw [he, HWM.out], ho.bools, hb⟩)
            generalize unlN WM (flipN WM ws N p) N = far at *
            generalize flipN WM ws N p = bb at *
            have hFb := findM_le q tn nn bb E In
            generalize findM q tn nn bb E In = F at *
            obtain ⟨FL, hFL⟩ : ∃ FL, F.length = FL := ⟨_, rfl⟩
            have c29 : ∀ (y : Int) W A c, Ints W A F → Calls Try.prog 29 #[.slice A FL c, .int .i64 y] W fun e w' => e = .returned (.bool (decide (y ∈ F))) ∧ W = w' := fun y W A c hJ => (has_any A c FL F y W hJ hFL (by omega)).mono fun e w' h => ⟨h.1, h.2.symm⟩
            have hcond2 : (p = nC ∨ p < nC ∧ p = E) := by
              by_cases h1 : p = nC
              · exact .inl h1
              · by_cases h2 : p = E
                · exact .inr ⟨by omega, h2⟩
                · exact absurd ⟨by omega, by omega⟩ hgo
            have hfin : S < 0 ∨ 0 ≤ S ∧ S < L ∨ 0 ≤ S ∧ (L : Int) ≤ S ∧ F = SL := by
              by_cases h1 : S < 0
              · exact .inl h1
              · by_cases h2 : S < L
                · exact .inr (.inl ⟨by omega, h2⟩)
                · refine .inr (.inr ⟨by omega, by omega, hjust ?_⟩)
                  have := HXS.out (by omega) (by rw [HL.out]; omega)
                  have e9 : ((SL.length * (tn - 1) + 2 * E + 1 : Nat) : Int) = (SL.length : Int) * ((tn : Int) - 1) + 2 * E + 1 := by
                    push_cast
                    rw [show ((tn - 1 : Nat) : Int) = (tn : Int) - 1 by omega]
                  omega
            have HFIN := Lib.hid hfin
            have HFL2 := Lib.hid hFL
            have HHAS2 := Lib.hid hhas
            have k0 := hXr.k0
            have k1 := hXr.k1
            have k2 := hXr.k2
            have hfd : decide (E < far) = false := decide_eq_false (by omega)
            have hfd2 : decide ((E : Int) < (far : Int)) = false := decide_eq_false (by omega)
            clear hfin hFL hhas hjust hgo c26n c25 c42l c26e c45
            rcases hcond2 with h3 | ⟨h3, h4⟩
            · subst h3
              go_wp2_with fail
              refine (c52b _ _ _ hbB).mono ?_
              rintro e w6 ⟨v6, rfl, hs6, hb6⟩
              obtain ⟨A6, c6, rfl, hF6⟩ := hs6.lieA HFL2.out
              have hX6 := hXr.step hb6
              have hI6 := Ints.below hIr hb6
              have hbB6 := Bools.below hbB hb6
              clear k0 k1 k2 hb6 hs6
              have k0 := hX6.k0
              have k1 := hX6.k1
              have k2 := hX6.k2
              go_wp2
              go_loop [20] (fun i => ∃ j : Nat, j ≤ L ∧ i = .int .i64 j) (fun i => L - (intOf i).toNat)
              case atStart => exact ⟨0, by omega, rfl⟩
              case round =>
                obtain ⟨j, hj, rfl⟩ := hrel
                by_cases hjL : j < L
                · obtain ⟨b7, o7, rfl, hb7, hc7⟩ := hI6.get (k := j) (by rw [HL.out]; exact hjL)
                  have hmi : SL[j]'(by rw [HL.out]; exact hjL) ∈ SL := List.getElem_mem _
                  have hmF := HHAS2.out _ hmi (HME.out _ hmi)
                  have c1 := c29 (SL[j]'(by rw [HL.out]; exact hjL)) w6 A6 c6 hF6
                  rw [decide_eq_true hmF] at c1
                  generalize SL[j]'(by rw [HL.out]; exact hjL) = x at *
                  clear hmi hmF
                  go_wp2_with (go_at_call 29; refine c1.mono ?_; rintro e w' ⟨rfl, rfl⟩)
                  go_round
                  case rel => exact ⟨j + 1, by omega, by go_num⟩
                  case measure => simp [intOf]; omega
                · obtain rfl : j = L := by omega
                  clear hjL c29
                  go_wp2_with fail
                  refine (c53 _ _ _ hI6 hbB6).mono ?_
                  rintro e w7 ⟨rfl, hb7⟩
                  have hX7 := hX6.step hb7
                  have hI7 := Ints.below hI6 hb7
                  have hF7 := Ints.below hF6 hb7
                  have hB7 := hB1.trans (hX7.below.mono hsz1)
                  clear k0 k1 k2 hb7
                  rcases HFIN.out with h5 | ⟨h5, h6⟩ | ⟨h5, h6, h7⟩
                  · go_wp2
                    go_ret
                    exact ⟨rfl, hB7⟩
                  · have hd5 : decide (S < 0) = false := decide_eq_false (by omega)
                    go_wp2
                    go_ret
                    exact ⟨rfl, hB7⟩
                  · have hd5 : decide (S < 0) = false := decide_eq_false (by omega)
                    have hd6 : decide (S < (j : Int)) = false := decide_eq_false (by omega)
                    have hFj : FL = j := by rw [← HFL2.out, h7]; exact HL.out
                    rw [h7] at hF7
                    have hFj2 := Lib.hid hFj
                    clear h7 hFj
                    rw [hFj2.out]
                    have c23 := lawsame_any A6 _ j j c6 c5 SL SL w7 hF7 hI7 HL.out HL.out (by omega) (by omega)
                    have c23' := c23.mono fun e w' h => (⟨by rw [h.1]; simp, h.2⟩ : e = .returned (.bool true) ∧ ∃ z, w' = w7.drewN z)
                    clear c23
                    go_wp2_with fail
                    refine c23'.mono ?_
                    rintro e w8 ⟨rfl, z8, rfl⟩
                    go_wp2
                    go_ret
                    exact ⟨rfl, hB7.drewN z8⟩
            · have hd3 : decide (p < nC) = true := decide_eq_true h3
              subst h4
              go_wp2_with fail
              refine (c52b _ _ _ hbB).mono ?_
              rintro e w6 ⟨v6, rfl, hs6, hb6⟩
              obtain ⟨A6, c6, rfl, hF6⟩ := hs6.lieA HFL2.out
              have hX6 := hXr.step hb6
              have hI6 := Ints.below hIr hb6
              have hbB6 := Bools.below hbB hb6
              clear k0 k1 k2 hb6 hs6
              have k0 := hX6.k0
              have k1 := hX6.k1
              have k2 := hX6.k2
              go_wp2
              go_loop [20] (fun i => ∃ j : Nat, j ≤ L ∧ i = .int .i64 j) (fun i => L - (intOf i).toNat)
              case atStart => exact ⟨0, by omega, rfl⟩
              case round =>
                obtain ⟨j, hj, rfl⟩ := hrel
                by_cases hjL : j < L
                · obtain ⟨b7, o7, rfl, hb7, hc7⟩ := hI6.get (k := j) (by rw [HL.out]; exact hjL)
                  have hmi : SL[j]'(by rw [HL.out]; exact hjL) ∈ SL := List.getElem_mem _
                  have hmF := HHAS2.out _ hmi (HME.out _ hmi)
                  have c1 := c29 (SL[j]'(by rw [HL.out]; exact hjL)) w6 A6 c6 hF6
                  rw [decide_eq_true hmF] at c1
                  generalize SL[j]'(by rw [HL.out]; exact hjL) = x at *
                  clear hmi hmF
                  go_wp2_with (go_at_call 29; refine c1.mono ?_; rintro e w' ⟨rfl, rfl⟩)
                  go_round
                  case rel => exact ⟨j + 1, by omega, by go_num⟩
                  case measure => simp [intOf]; omega
                · obtain rfl : j = L := by omega
                  clear hjL c29
                  go_wp2_with fail
                  refine (c53 _ _ _ hI6 hbB6).mono ?_
                  rintro e w7 ⟨rfl, hb7⟩
                  have hX7 := hX6.step hb7
                  have hI7 := Ints.below hI6 hb7
                  have hF7 := Ints.below hF6 hb7
                  have hB7 := hB1.trans (hX7.below.mono hsz1)
                  clear k0 k1 k2 hb7
                  rcases HFIN.out with h5 | ⟨h5, h6⟩ | ⟨h5, h6, h7⟩
                  · go_wp2
                    go_ret
                    exact ⟨rfl, hB7⟩
                  · have hd5 : decide (S < 0) = false := decide_eq_false (by omega)
                    go_wp2
                    go_ret
                    exact ⟨rfl, hB7⟩
                  · have hd5 : decide (S < 0) = false := decide_eq_false (by omega)
                    have hd6 : decide (S < (j : Int)) = false := decide_eq_false (by omega)
                    have hFj : FL = j := by rw [← HFL2.out, h7]; exact HL.out
                    rw [h7] at hF7
                    have hFj2 := Lib.hid hFj
                    clear h7 hFj
                    rw [hFj2.out]
                    have c23 := lawsame_any A6 _ j j c6 c5 SL SL w7 hF7 hI7 HL.out HL.out (by omega) (by omega)
                    have c23' := c23.mono fun e w' h => (⟨by rw [h.1]; simp, h.2⟩ : e = .returned (.bool true) ∧ ∃ z, w' = w7.drewN z)
                    clear c23
                    go_wp2_with fail
                    refine c23'.mono ?_
                    rintro e w8 ⟨rfl, z8, rfl⟩
                    go_wp2
                    go_ret
                    exact ⟨rfl, hB7.drewN z8⟩
      · have hd1 : decide (k < m) = true := decide_eq_true h1
        subst h2
        go_wp2_with fail
        refine (c42l _ _ _ hI).mono ?_
        rintro e w4 ⟨g, rfl, hoB, hb4⟩
        have hX4 := hX.step hb4
        have hI4 := Ints.below hI hb4
        have hbase : w1.heap.size + 1 ≤ wr.heap.size + 1 := by have := hX.lt; omega
        have hgb := (hoB.lt g rfl).1
        have HI4 := Lib.hid hI4
        have HIW := Lib.hid hI
        have HBW := Lib.hid hb4
        have HXW := Lib.hid hX
        clear k0 k1 k2 z1 hb4 hX hI
        have k0 := hX4.k0
        have k1 := hX4.k1
        have k2 := hX4.k2
        go_wp2
        obtain ⟨wo, rfl⟩ : ∃ wo, wo = wr := ⟨_, rfl⟩
        go_loopw [16] (fun i wr => ∃ p : Nat, p ≤ nC ∧ p ≤ E ∧ i = .int .i64 p ∧ OwnB wr (wo.heap.size + 1) (.slice (some ⟨g, 0, none⟩) N N) N (flipN WM ws N p) ∧ Below wo.heap.size wo wr) (fun i _ => nC - (intOf i).toNat)
        case atStart => exact ⟨0, by omega, by omega, rfl, hoB, HBW.out⟩
        case round =>
          clear hoB hX4 k0 k1 k2 HI4 hI4
          obtain ⟨p, hp, hpE, rfl, ho, hb⟩ := hrel
          have hXr := HXW.out.step hb
          by_cases hgo : p < nC ∧ p < E
          · obtain ⟨hp1, hp2⟩ := hgo
            obtain ⟨bc, oc, rfl, hbc, hcc⟩ := (hC.below (hB1.trans (hXr.below.mono hsz1))).get (k := p) (by rw [HM.out]; exact hp1)
            have hfs : flipN WM ws N (p + 1) = (flipN WM ws N p).set (ws.getD p 0 % (N : Int)).toNat (!(flipN WM ws N p).getD (ws.getD p 0 % (N : Int)).toNat false) := rfl
            have hfl := HFL.out p
            rw [HWM.out] at hfl
            rw [show ws.getD p 0 = ws[p]'(by rw [HM.out]; exact hp1) by simp [List.getD, show p < ws.length by rw [HM.out]; exact hp1]] at hfs
            have cf := c26n _ (HY.out _ (List.getElem_mem (l := ws) (n := p) (by rw [HM.out]; exact hp1)))
            generalize ws[p]'(by rw [HM.out]; exact hp1) = x at *
            have hy1 := Int.emod_nonneg x (show (N : Int) ≠ 0 by omega)
            have hy2 := Int.emod_lt_of_pos x (show (0 : Int) < N by omega)
            generalize x % (N : Int) = y at *
            obtain ⟨yn, rfl⟩ : ∃ yn : Nat, y = yn := ⟨y.toNat, by omega⟩
            rw [Int.toNat_natCast] at hfs
            have hyN : yn < N := by omega
            have hfz := ho.frozen yn
            have hget := ho.get (k := yn) (by rw [hfl]; exact hyN)
            rw [show (flipN WM ws N p).getD yn false = (flipN WM ws N p)[yn]'(by rw [hfl]; exact hyN) by simp [List.getD, show yn < (flipN WM ws N p).length by rw [hfl]; exact hyN]] at hfs
            generalize (flipN WM ws N p)[yn]'(by rw [hfl]; exact hyN) = bv at *
            have HFS := Lib.hid hfs
            have HFLn := Lib.hid hfl
            clear hfs hfl hXr
            cases bv with
            | true =>
              go_wp2_with (go_at_call 26; refine (cf _).mono ?_; rintro e w' ⟨rfl, rfl⟩)
              go_roundw
              case rel => exact ⟨p + 1, by omega, by omega, by go_num, by rw [HFS.out]; exact ho.set yn false, hb.setCell (by simp; omega) _⟩
              case measure => simp [intOf]; omega
            | false =>
              go_wp2_with (go_at_call 26; refine (cf _).mono ?_; rintro e w' ⟨rfl, rfl⟩)
              go_roundw
              case rel => exact ⟨p + 1, by omega, by omega, by go_num, by rw [HFS.out]; exact ho.set yn true, hb.setCell (by simp; omega) _⟩
              case measure => simp [intOf]; omega
          · have hfar := HFF.out p
            have hfarE : unlN WM (flipN WM ws N p) N ≤ E := by omega
            have hbl := HFL.out p
            rw [HWM.out] at hbl
            have hhas := fun i hi => HH.out _ hfarE i hi
            have hjust := HJ.out _ hfarE
            have c52b := fun A c W => c52 _ A c W hbl
            have hIr := Ints.below HIW.out hb
            have hbB := ho.bools
            have c53 : ∀ W c d, Ints W A5 SL → Bools W (some ⟨g, 0, none⟩) (flipN WM ws N p) → Calls Try.prog 53 #[pools q tn nn, .slice (some ⟨g, 0, none⟩) N d, .slice A5 L c] W (RetII (unlN WM (flipN WM ws N p) N : Nat) 0 W) := fun W c d hJ hK =>
              Explains_good q tn nn A5 (some ⟨g, 0, none⟩) c d L N SL WM (flipN WM ws N p) W HL.out hJ hK hbl (by omega) HWM.out (fun W A c hJ2 => (c42l W A c hJ2).mono fun e w' ⟨g, he, ho, hb⟩ => ⟨some ⟨g, 0, none⟩, N, by rw [he, HWM.out], ho.bools, hb⟩)
            generalize unlN WM (flipN WM ws N p) N = far at *
            generalize flipN WM ws N p = bb at *
            have hFb := findM_le q tn nn bb E In
            generalize findM q tn nn bb E In = F at *
            obtain ⟨FL, hFL⟩ : ∃ FL, F.length = FL := ⟨_, rfl⟩
            have c29 : ∀ (y : Int) W A c, Ints W A F → Calls Try.prog 29 #[.slice A FL c, .int .i64 y] W fun e w' => e = .returned (.bool (decide (y ∈ F))) ∧ W = w' := fun y W A c hJ => (has_any A c FL F y W hJ hFL (by omega)).mono fun e w' h => ⟨h.1, h.2.symm⟩
            have hcond2 : (p = nC ∨ p < nC ∧ p = E) := by
              by_cases h1 : p = nC
              · exact .inl h1
              · by_cases h2 : p = E
                · exact .inr ⟨by omega, h2⟩
                · exact absurd ⟨by omega, by omega⟩ hgo
            have hfin : S < 0 ∨ 0 ≤ S ∧ S < L ∨ 0 ≤ S ∧ (L : Int) ≤ S ∧ F = SL := by
              by_cases h1 : S < 0
              · exact .inl h1
              · by_cases h2 : S < L
                · exact .inr (.inl ⟨by omega, h2⟩)
                · refine .inr (.inr ⟨by omega, by omega, hjust ?_⟩)
                  have := HXS.out (by omega) (by rw [HL.out]; omega)
                  have e9 : ((SL.length * (tn - 1) + 2 * E + 1 : Nat) : Int) = (SL.length : Int) * ((tn : Int) - 1) + 2 * E + 1 := by
                    push_cast
                    rw [show ((tn - 1 : Nat) : Int) = (tn : Int) - 1 by omega]
                  omega
            have HFIN := Lib.hid hfin
            have HFL2 := Lib.hid hFL
            have HHAS2 := Lib.hid hhas
            have k0 := hXr.k0
            have k1 := hXr.k1
            have k2 := hXr.k2
            have hfd : decide (E < far) = false := decide_eq_false (by omega)
            have hfd2 : decide ((E : Int) < (far : Int)) = false := decide_eq_false (by omega)
            clear hfin hFL hhas hjust hgo c26n c25 c42l c26e c45
            rcases hcond2 with h3 | ⟨h3, h4⟩
            · subst h3
              go_wp2_with fail
              refine (c52b _ _ _ hbB).mono ?_
              rintro e w6 ⟨v6, rfl, hs6, hb6⟩
              obtain ⟨A6, c6, rfl, hF6⟩ := hs6.lieA HFL2.out
              have hX6 := hXr.step hb6
              have hI6 := Ints.below hIr hb6
              have hbB6 := Bools.below hbB hb6
              clear k0 k1 k2 hb6 hs6
              have k0 := hX6.k0
              have k1 := hX6.k1
              have k2 := hX6.k2
              go_wp2
              go_loop [20] (fun i => ∃ j : Nat, j ≤ L ∧ i = .int .i64 j) (fun i => L - (intOf i).toNat)
              case atStart => exact ⟨0, by omega, rfl⟩
              case round =>
                obtain ⟨j, hj, rfl⟩ := hrel
                by_cases hjL : j < L
                · obtain ⟨b7, o7, rfl, hb7, hc7⟩ := hI6.get (k := j) (by rw [HL.out]; exact hjL)
                  have hmi : SL[j]'(by rw [HL.out]; exact hjL) ∈ SL := List.getElem_mem _
                  have hmF := HHAS2.out _ hmi (HME.out _ hmi)
                  have c1 := c29 (SL[j]'(by rw [HL.out]; exact hjL)) w6 A6 c6 hF6
                  rw [decide_eq_true hmF] at c1
                  generalize SL[j]'(by rw [HL.out]; exact hjL) = x at *
                  clear hmi hmF
                  go_wp2_with (go_at_call 29; refine c1.mono ?_; rintro e w' ⟨rfl, rfl⟩)
                  go_round
                  case rel => exact ⟨j + 1, by omega, by go_num⟩
                  case measure => simp [intOf]; omega
                · obtain rfl : j = L := by omega
                  clear hjL c29
                  go_wp2_with fail
                  refine (c53 _ _ _ hI6 hbB6).mono ?_
                  rintro e w7 ⟨rfl, hb7⟩
                  have hX7 := hX6.step hb7
                  have hI7 := Ints.below hI6 hb7
                  have hF7 := Ints.below hF6 hb7
                  have hB7 := hB1.trans (hX7.below.mono hsz1)
                  clear k0 k1 k2 hb7
                  rcases HFIN.out with h5 | ⟨h5, h6⟩ | ⟨h5, h6, h7⟩
                  · go_wp2
                    go_ret
                    exact ⟨rfl, hB7⟩
                  · have hd5 : decide (S < 0) = false := decide_eq_false (by omega)
                    go_wp2
                    go_ret
                    exact ⟨rfl, hB7⟩
                  · have hd5 : decide (S < 0) = false := decide_eq_false (by omega)
                    have hd6 : decide (S < (j : Int)) = false := decide_eq_false (by omega)
                    have hFj : FL = j := by rw [← HFL2.out, h7]; exact HL.out
                    rw [h7] at hF7
                    have hFj2 := Lib.hid hFj
                    clear h7 hFj
                    rw [hFj2.out]
                    have c23 := lawsame_any A6 _ j j c6 c5 SL SL w7 hF7 hI7 HL.out HL.out (by omega) (by omega)
                    have c23' := c23.mono fun e w' h => (⟨by rw [h.1]; simp, h.2⟩ : e = .returned (.bool true) ∧ ∃ z, w' = w7.drewN z)
                    clear c23
                    go_wp2_with fail
                    refine c23'.mono ?_
                    rintro e w8 ⟨rfl, z8, rfl⟩
                    go_wp2
                    go_ret
                    exact ⟨rfl, hB7.drewN z8⟩
            · have hd3 : decide (p < nC) = true := decide_eq_true h3
              subst h4
              go_wp2_with fail
              refine (c52b _ _ _ hbB).mono ?_
              rintro e w6 ⟨v6, rfl, hs6, hb6⟩
              obtain ⟨A6, c6, rfl, hF6⟩ := hs6.lieA HFL2.out
              have hX6 := hXr.step hb6
              have hI6 := Ints.below hIr hb6
              have hbB6 := Bools.below hbB hb6
              clear k0 k1 k2 hb6 hs6
              have k0 := hX6.k0
              have k1 := hX6.k1
              have k2 := hX6.k2
              go_wp2
              go_loop [20] (fun i => ∃ j : Nat, j ≤ L ∧ i = .int .i64 j) (fun i => L - (intOf i).toNat)
              case atStart => exact ⟨0, by omega, rfl⟩
              case round =>
                obtain ⟨j, hj, rfl⟩ := hrel
                by_cases hjL : j < L
                · obtain ⟨b7, o7, rfl, hb7, hc7⟩ := hI6.get (k := j) (by rw [HL.out]; exact hjL)
                  have hmi : SL[j]'(by rw [HL.out]; exact hjL) ∈ SL := List.getElem_mem _
                  have hmF := HHAS2.out _ hmi (HME.out _ hmi)
                  have c1 := c29 (SL[j]'(by rw [HL.out]; exact hjL)) w6 A6 c6 hF6
                  rw [decide_eq_true hmF] at c1
                  generalize SL[j]'(by rw [HL.out]; exact hjL) = x at *
                  clear hmi hmF
                  go_wp2_with (go_at_call 29; refine c1.mono ?_; rintro e w' ⟨rfl, rfl⟩)
                  go_round
                  case rel => exact ⟨j + 1, by omega, by go_num⟩
                  case measure => simp [intOf]; omega
                · obtain rfl : j = L := by omega
                  clear hjL c29
                  go_wp2_with fail
                  refine (c53 _ _ _ hI6 hbB6).mono ?_
                  rintro e w7 ⟨rfl, hb7⟩
                  have hX7 := hX6.step hb7
                  have hI7 := Ints.below hI6 hb7
                  have hF7 := Ints.below hF6 hb7
                  have hB7 := hB1.trans (hX7.below.mono hsz1)
                  clear k0 k1 k2 hb7
                  rcases HFIN.out with h5 | ⟨h5, h6⟩ | ⟨h5, h6, h7⟩
                  · go_wp2
                    go_ret
                    exact ⟨rfl, hB7⟩
                  · have hd5 : decide (S < 0) = false := decide_eq_false (by omega)
                    go_wp2
                    go_ret
                    exact ⟨rfl, hB7⟩
                  · have hd5 : decide (S < 0) = false := decide_eq_false (by omega)
                    have hd6 : decide (S < (j : Int)) = false := decide_eq_false (by omega)
                    have hFj : FL = j := by rw [← HFL2.out, h7]; exact HL.out
                    rw [h7] at hF7
                    have hFj2 := Lib.hid hFj
                    clear h7 hFj
                    rw [hFj2.out]
                    have c23 := lawsame_any A6 _ j j c6 c5 SL SL w7 hF7 hI7 HL.out HL.out (by omega) (by omega)
                    have c23' := c23.mono fun e w' h => (⟨by rw [h.1]; simp, h.2⟩ : e = .returned (.bool true) ∧ ∃ z, w' = w7.drewN z)
                    clear c23
                    go_wp2_with fail
                    refine c23'.mono ?_
                    rintro e w8 ⟨rfl, z8, rfl⟩
                    go_wp2
                    go_ret
                    exact ⟨rfl, hB7.drewN z8⟩
end
end Go.Proofs.Ytneliejncfncdaa
