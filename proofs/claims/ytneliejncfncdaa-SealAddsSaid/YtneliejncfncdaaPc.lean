/- The law SealShare: the plain part. -/
import Derived.Test.YtneliejncfncdaaPb
import Derived.Test.YtneliejncfncdaaLa
namespace Go.Proofs.Ytneliejncfncdaa

theorem getD_get {l : List Int} {i : Nat} (h : i < l.length) : l.getD i 0 = l[i] := by simp [List.getD, h]
theorem membersD_get (q : Int) (D : List Int) {n i : Nat} (hi : i < n) : (membersD q D n)[i]'(by rw [membersD_length]; exact hi) = (i : Int) * q + hv q i D := by simp [membersD]

theorem place_inj {q a b u v : Int} (hu : 0 ≤ u ∧ u < q) (hv : 0 ≤ v ∧ v < q) (h : a * q + u = b * q + v) : a = b ∧ u = v := by
  have e1 : (a * q + u) / q = a := by rw [Int.add_comm, Int.add_mul_ediv_right _ _ (by omega), Int.ediv_eq_zero_of_lt hu.1 hu.2]; omega
  have e2 : (b * q + v) / q = b := by rw [Int.add_comm, Int.add_mul_ediv_right _ _ (by omega), Int.ediv_eq_zero_of_lt hv.1 hv.2]; omega
  have hab : a = b := by rw [← e1, ← e2, h]
  subst hab
  exact ⟨rfl, by omega⟩

/-- Place x, y is one of an item's pools. -/
theorem members_mem {q : Int} (hq : 1 ≤ q) (D : List Int) {n x : Nat} (hx : x < n) {y : Int} (hy : 0 ≤ y ∧ y < q) : ((x : Int) * q + y ∈ membersD q D n) ↔ hv q x D = y := by
  constructor
  · intro h
    unfold membersD at h
    obtain ⟨z, hz, he⟩ := List.mem_map.1 h
    have := place_inj (hv_bd hq D) hy he
    have hzx : z = x := by omega
    rw [← this.2, hzx]
  · intro h
    unfold membersD
    exact List.mem_map.2 ⟨x, List.mem_range.2 hx, by rw [h]⟩

theorem members_rise {q : Int} (hq : 1 ≤ q) (D : List Int) (n : Nat) : ∀ k, k ≤ n → rsB ((n : Int) * q) (-1) (membersD q D k) = true
  | 0, _ => rfl
  | k + 1, hk => by
    have hb := hv_bd (q := q) (x := (k : Int)) hq D
    have h0 : 0 ≤ (k : Int) * q := Int.mul_nonneg (by omega) (by omega)
    have h1 : ((k : Int) + 1) * q ≤ (n : Int) * q := Int.mul_le_mul_of_nonneg_right (by omega) (by omega)
    have h2 : ((k : Int) + 1) * q = (k : Int) * q + q := by grind
    rw [membersD_succ]
    refine rsB_snoc _ _ _ (members_rise hq D n k (by omega)) (by omega) (fun hne => ?_) (by omega)
    cases k with
    | zero => simp [membersD] at hne
    | succ j =>
      have hbj := hv_bd (q := q) (x := (j : Int)) hq D
      have h3 : ((j : Int) + 1) * q = (j : Int) * q + q := by grind
      rw [membersD_succ]
      simp only [List.getLastD_eq_getLast?, List.getLast?_append, List.getLast?_singleton, Option.some_or, Option.getD_some]
      push_cast at h0 h1 h2 hb ⊢
      omega

/-- How many pools two items share. -/
theorem share_count {q a b : Int} {t n : Nat} (hq : primeB q = true) (hn : (n : Int) ≤ q) (ht : 1 ≤ t) (ha : 0 ≤ a ∧ a < q ^ t) (hb : 0 ≤ b ∧ b < q ^ t) (hne : a ≠ b) :
    cntN (fun i => decide ((membersM q a t n).getD i 0 ∈ membersM q b t n)) n ≤ t - 1 := by
  have hp := prime_bd hq
  rw [cntN_congr _ (fun (x : Nat) => decide (hv q (x : Int) (digs q a t) = hv q (x : Int) (digs q b t))) n (fun i hi => by
    have e : (membersM q a t n).getD i 0 = (i : Int) * q + hv q i (digs q a t) := by
      unfold membersM
      rw [getD_get (by rw [membersD_length]; exact hi), membersD_get _ _ hi]
    rw [e]
    have := members_mem (q := q) (by omega) (digs q b t) hi (hv_bd (q := q) (x := (i : Int)) (by omega) (digs q a t))
    unfold membersM
    rw [Bool.eq_iff_iff]
    simp only [decide_eq_true_eq]
    rw [this, eq_comm])]
  rcases Nat.lt_or_ge (t - 1) (cntN (fun (x : Nat) => decide (hv q (x : Int) (digs q a t) = hv q (x : Int) (digs q b t))) n) with h | h
  · exfalso
    have := same_of_count hq (D := digs q a t) (E := digs q b t) (digs_elem (by omega) t) (digs_elem (by omega) t) (by simp [digs_length]) hn (by rw [digs_length]; omega)
    exact hne (digs_inj hp.1 t a b ha.1 ha.2 hb.1 hb.2 this)
  · exact h
theorem share_self (q a : Int) (t n : Nat) : cntN (fun i => decide ((membersM q a t n).getD i 0 ∈ membersM q a t n)) n = n := by
  refine cntN_all _ _ fun i hi => ?_
  have hl := membersM_length q a t n
  rw [getD_get (by omega)]
  simp

theorem count_small : ∀ (Q : Fin 8) (c y : Fin 8), c.val < Q.val → y.val < Q.val → cntN (fun r => decide ((c.val + r) % Q.val = y.val)) Q.val = 1 := by decide +kernel

/-- How many items are in a pool. -/
theorem pool_count {q : Int} (hq : 2 ≤ q ∧ q ≤ 7) (t n : Nat) (ht : 1 ≤ t) {pool : Int} (hp : 0 ≤ pool ∧ pool < n * q) (K : Nat) :
    cntN (fun i => decide (pool ∈ membersM q i t n)) (q.toNat * K) = K := by
  obtain ⟨Q, rfl⟩ := Int.eq_ofNat_of_zero_le (show 0 ≤ q by omega)
  obtain ⟨x, hx⟩ := Int.eq_ofNat_of_zero_le (Int.ediv_nonneg hp.1 (show 0 ≤ (Q : Int) by omega))
  have hy1 := Int.emod_nonneg pool (show (Q : Int) ≠ 0 by omega)
  have hy2 := Int.emod_lt_of_pos pool (show (0 : Int) < Q by omega)
  obtain ⟨y, hy⟩ := Int.eq_ofNat_of_zero_le hy1
  have hpe : pool = (x : Int) * Q + y := by
    have := Int.emod_add_mul_ediv pool Q
    rw [hx, hy] at this
    rw [← this]
    grind
  have hxn : x < n := by
    have := Int.ediv_lt_of_lt_mul (show (0 : Int) < Q by omega) hp.2
    omega
  obtain ⟨s, rfl⟩ : ∃ s, t = s + 1 := ⟨t - 1, by omega⟩
  rw [Int.toNat_natCast]
  induction K with
  | zero => rfl
  | succ K ih =>
    rw [Nat.mul_succ, cntN_add, ih]
    have hcb := hv_bd (q := (Q : Int)) (x := (x : Int)) (by omega) (digs Q K s)
    have hc1 := Int.emod_nonneg (hv Q x (digs Q K s) * x) (show (Q : Int) ≠ 0 by omega)
    have hc2 := Int.emod_lt_of_pos (hv Q x (digs Q K s) * x) (show (0 : Int) < Q by omega)
    obtain ⟨c, hc⟩ := Int.eq_ofNat_of_zero_le hc1
    have := count_small ⟨Q, by omega⟩ ⟨c, by omega⟩ ⟨y, by omega⟩ (by show c < Q; omega) (by show y < Q; omega)
    simp only at this
    rw [cntN_congr _ (fun r => decide ((c + r) % Q = y)) Q (fun r hr => ?_), this]
    have e1 : (((Q * K + r : Nat) : Int)) % Q = r := by
      push_cast
      rw [Int.mul_add_emod_self_left]
      exact Int.emod_eq_of_lt (by omega) (by omega)
    have e2 : (((Q * K + r : Nat) : Int)) / Q = K := by
      push_cast
      rw [Int.mul_add_ediv_left _ _ (by omega), Int.ediv_eq_zero_of_lt (by omega) (by omega)]
      omega
    unfold membersM
    rw [Bool.eq_iff_iff]
    simp only [decide_eq_true_eq]
    rw [hpe, members_mem (by omega) _ hxn ⟨by omega, by omega⟩, digs_cons (by omega), e1, e2, hv, hc]
    constructor
    · intro h; exact_mod_cast h
    · intro h; exact_mod_cast h
end Go.Proofs.Ytneliejncfncdaa
