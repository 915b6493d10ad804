/- Texts of integers and of fractions, and how they are read: plain law, no program in sight. -/
import Derived.Lib.AtoiAll
import Derived.Lib.ItoaMem
import Derived.Lib.IndexMore
import Derived.Test.YtbkgbkmpalbdpaaGreatDoorPkO
namespace Go.Proofs.YtbkgbkmpalbdpaaGreatDoor.G
open Go.Lib

def isDig (c : UInt8) : Prop := 48 ≤ c.toNat ∧ c.toNat ≤ 57
instance (c : UInt8) : Decidable (isDig c) := by unfold isDig; infer_instance
/-- What digits spell behind acc. -/
def valD (acc : Nat) : List UInt8 → Nat
  | [] => acc
  | c :: r => valD (acc * 10 + (c.toNat - 48)) r
theorem valD_append : ∀ (l m : List UInt8) (a : Nat), valD a (l ++ m) = valD (valD a l) m
  | [], _, _ => rfl
  | _ :: r, m, _ => by rw [List.cons_append]; exact valD_append r m _
theorem valD_ge : ∀ (l : List UInt8) (a : Nat), a ≤ valD a l
  | [], _ => Nat.le_refl _
  | c :: r, a => Nat.le_trans (by omega) (valD_ge r (a * 10 + (c.toNat - 48)))
theorem dig_of (k : Nat) (h : k < 10) : isDig (UInt8.ofNat (48 + k)) ∧ (UInt8.ofNat (48 + k)).toNat = 48 + k := by
  have : (UInt8.ofNat (48 + k)).toNat = 48 + k := by rw [UInt8.toNat_ofNat']; omega
  exact ⟨by unfold isDig; omega, this⟩
theorem dec_dig (u : Nat) : ∀ c ∈ decDigits u, isDig c := by
  induction u using Nat.strongRecOn with
  | _ u ih =>
    intro c hc
    rw [decDigits] at hc
    split at hc
    · simp only [List.mem_singleton] at hc; subst hc; exact (dig_of u (by omega)).1
    · rcases List.mem_append.1 hc with h | h
      · exact ih (u / 10) (by omega) c h
      · simp only [List.mem_singleton] at h; subst h; exact (dig_of (u % 10) (by omega)).1
theorem dec_val (u : Nat) : valD 0 (decDigits u) = u := by
  induction u using Nat.strongRecOn with
  | _ u ih =>
    rw [decDigits]
    split
    · rename_i h
      have h2 := (dig_of u h).2
      show 0 * 10 + ((UInt8.ofNat (48 + u)).toNat - 48) = u
      rw [h2]; omega
    · rw [valD_append, ih (u / 10) (by omega)]
      have h2 := (dig_of (u % 10) (Nat.mod_lt _ (by decide))).2
      show u / 10 * 10 + ((UInt8.ofNat (48 + u % 10)).toNat - 48) = u
      rw [h2]; omega
theorem dec_ne (u : Nat) : decDigits u ≠ [] := by
  rw [decDigits]; split <;> simp
theorem dec_len : ∀ (k u : Nat), u < 10 ^ (k + 1) → (decDigits u).length ≤ k + 1
  | 0, u, h => by rw [decDigits, dif_pos (by omega)]; simp
  | k + 1, u, h => by
    rw [decDigits]
    split
    · simp only [List.length_singleton]; omega
    · rw [List.length_append]
      have := dec_len k (u / 10) (by rw [Nat.pow_succ] at h; omega)
      simp; omega
theorem parse_dig : ∀ (l : List UInt8) (acc : Nat), (∀ c ∈ l, isDig c) → valD acc l < 18446744073709551616 → parseUint10 acc l = .ok (valD acc l)
  | [], acc, _, _ => rfl
  | c :: r, acc, hd, hv => by
    have h1 := hd c (by simp)
    have h2 := valD_ge r (acc * 10 + (c.toNat - 48))
    unfold parseUint10
    unfold valD at hv ⊢
    unfold isDig at h1
    rw [if_pos h1, if_neg (by omega), if_neg (by omega)]
    exact parse_dig r _ (fun x hx => hd x (by simp [hx])) hv
theorem mag_dec (u : Nat) (h : u < 18446744073709551616) : parseMag (decDigits u) = .ok u := by
  unfold parseMag
  rw [if_neg (dec_ne u), parse_dig _ _ (dec_dig u) (by rw [dec_val]; exact h), dec_val]
/-- Atoi of Itoa. -/
theorem atoi_itoa (n : Int) (h : I64 n) : atoiAll (itoa n) = .ok n := by
  obtain ⟨h0, h1⟩ := h
  unfold itoa
  split
  · rename_i hn
    unfold atoiAll
    have e : (45 : UInt8).toNat = 45 := rfl
    simp only [e, or_true, if_true]
    rw [mag_dec _ (by omega)]
    simp only [not_true_eq_false, false_and, if_false, true_and]
    rw [if_neg (by omega)]
    congr 1
    omega
  · rename_i hn
    cases hd : decDigits n.toNat with
    | nil => exact absurd hd (dec_ne _)
    | cons c r =>
      have hc := dec_dig n.toNat c (by rw [hd]; simp)
      unfold isDig at hc
      unfold atoiAll
      have e1 : ¬ (c.toNat = 43 ∨ c.toNat = 45) := by omega
      have e2 : ¬ (c.toNat = 45) := by omega
      have hm := mag_dec n.toNat (by omega)
      rw [hd] at hm
      have e3 : (if c.toNat = 43 ∨ c.toNat = 45 then r else c :: r) = c :: r := if_neg e1
      simp only [e3, hm]
      simp only [e2, if_false, not_false_eq_true, true_and, false_and]
      have h3 : ¬ 9223372036854775808 ≤ n.toNat := by omega
      rw [if_neg h3]
      congr 1
      omega
/-- The number that Atoi gives, whatever its error is. -/
def atoiV (l : List UInt8) : Int := match atoiAll l with
  | .ok v => v
  | .range => atoiSat l
  | _ => 0
theorem atoiV_i64 (l : List UInt8) : I64 (atoiV l) := by
  unfold atoiV I64
  cases h : atoiAll l with
  | ok v =>
    cases l with
    | nil => cases h
    | cons c r =>
      unfold atoiAll at h
      dsimp only at h
      cases hu : parseMag (if c.toNat = 43 ∨ c.toNat = 45 then r else c :: r) with
      | range => rw [hu] at h; cases h
      | ok u =>
        have := parseMag_lt hu
        rw [hu] at h
        dsimp only at h
        by_cases hc : c.toNat = 45
        · simp only [hc, not_true_eq_false, false_and, if_false, true_and, if_true] at h
          by_cases hb : 9223372036854775808 < u
          · rw [if_pos hb] at h; cases h
          · rw [if_neg hb] at h
            injection h with h
            subst h
            simp only
            omega
        · simp only [hc, not_false_eq_true, true_and, false_and, if_false] at h
          by_cases hb : 9223372036854775808 ≤ u
          · rw [if_pos hb] at h; cases h
          · rw [if_neg hb] at h
            injection h with h
            subst h
            simp only
            omega
      | _ => rw [hu] at h; cases h
  | range => simp only [atoiSat]; split <;> omega
  | _ => simp only; omega
theorem atoiV_itoa (n : Int) (h : I64 n) : atoiV (itoa n) = n := by unfold atoiV; rw [atoi_itoa n h]
theorem index_no : ∀ (l : List UInt8), (∀ c ∈ l, c ≠ 47) → index l [47] = -1
  | [], _ => rfl
  | b :: l, h => by
    have hb := h b (by simp)
    unfold index
    rw [if_neg (by simp [Ne.symm hb]), index_no l (fun c hc => h c (by simp [hc]))]
    rfl
theorem index_at : ∀ (l r : List UInt8), (∀ c ∈ l, c ≠ 47) → index (l ++ 47 :: r) [47] = (l.length : Int)
  | [], r, _ => by unfold index; simp
  | b :: l, r, h => by
    have hb := h b (by simp)
    rw [List.cons_append]
    unfold index
    rw [if_neg (by simp [Ne.symm hb]), index_at l r (fun c hc => h c (by simp [hc])), if_neg (by rw [beq_iff_eq]; omega)]
    simp
theorem cut_no (l : List UInt8) (h : ∀ c ∈ l, c ≠ 47) : cut l [47] = (l, [], false) := by
  unfold cut; rw [index_no l h]; rfl
theorem cut_at (l r : List UInt8) (h : ∀ c ∈ l, c ≠ 47) : cut (l ++ 47 :: r) [47] = (l, r, true) := by
  unfold cut
  rw [index_at l r h, if_pos (by omega)]
  simp
/-- A fraction's text. -/
def textM (n d : Int) : List UInt8 := itoa n ++ if d = 1 then [] else 47 :: itoa d
theorem itoa_no (n : Int) : ∀ c ∈ itoa n, c ≠ 47 := by
  intro c hc he
  subst he
  unfold itoa at hc
  split at hc
  · rcases List.mem_cons.1 hc with h | h
    · cases h
    · have := (dec_dig _ _ h).1; exact absurd this (by decide)
  · have := (dec_dig _ _ hc).1; exact absurd this (by decide)
/-- What Parse tries. -/
def gcand (s : List UInt8) : Int × Int := (atoiV (cut s [47]).1, if (cut s [47]).2.2 then atoiV (cut s [47]).2.1 else 1)
theorem gcand_i64 (s : List UInt8) : I64 (gcand s).1 ∧ I64 (gcand s).2 := by
  refine ⟨atoiV_i64 _, ?_⟩
  unfold gcand
  dsimp only
  split
  · exact atoiV_i64 _
  · unfold I64; omega
theorem gcand_text {n d : Int} (hn : I64 n) (hd : I64 d) : gcand (textM n d) = (n, d) := by
  unfold gcand textM
  by_cases h1 : d = 1
  · rw [if_pos h1, List.append_nil, cut_no _ (itoa_no n)]
    simp [atoiV_itoa n hn, h1]
  · rw [if_neg h1, cut_at _ _ (itoa_no n)]
    simp [atoiV_itoa n hn, atoiV_itoa d hd]
/-- What Parse returns. -/
def parseM (s : List UInt8) : Option (Int × Int) := if FOk (gcand s) ∧ textM (gcand s).1 (gcand s).2 = s then some (gcand s) else none
theorem fok_i64 {x : Int × Int} (h : FOk x) : I64 x.1 ∧ I64 x.2 := by unfold FOk at h; unfold I64; omega
theorem parse_text {n d : Int} (h : FOk (n, d)) : parseM (textM n d) = some (n, d) := by
  unfold parseM
  rw [gcand_text (fok_i64 h).1 (fok_i64 h).2, if_pos ⟨h, rfl⟩]
/-- ref's number: up to the first byte that is no digit. -/
def numV (acc : Nat) : List UInt8 → Nat × Bool
  | [] => (acc, true)
  | c :: r => if isDig c then numV (acc * 10 + (c.toNat - 48)) r else (acc, false)
def numM (l : List UInt8) : Nat × Bool := ((numV 0 l).1, (numV 0 l).2 && decide (1 ≤ l.length ∧ l.length ≤ 19))
def rneg (s : List UInt8) : Bool := s.head? == some 45
def rrest (s : List UInt8) : List UInt8 := if rneg s then s.drop 1 else s
def rcut (s : List UInt8) : Nat := (rrest s).findIdx (· == 47)
def rnum (s : List UInt8) : Nat × Bool := numM ((rrest s).take (rcut s))
def rden (s : List UInt8) : Nat × Bool := if rcut s < (rrest s).length then numM ((rrest s).drop (rcut s + 1)) else (1, true)
def rok (s : List UInt8) : Prop := (rnum s).2 = true ∧ (rden s).2 = true ∧ (rnum s).1 ≤ 4611686018427387904 ∧ (rden s).1 ≤ 4611686018427387904
instance (s : List UInt8) : Decidable (rok s) := by unfold rok; infer_instance
end Go.Proofs.YtbkgbkmpalbdpaaGreatDoor.G
