/- Texts A D in one. -/
import Derived.Test.YtbkgbkmpalbdpaaGreatDoorProg
import Derived.WalkKit
import Derived.WalkSpells
import Derived.WalkLawsBesides
import Derived.BigQuiet
import Derived.Deep.QuietTactic
import Derived.Lib.Hide
import Derived.IntWalk
namespace Go.Proofs.YtbkgbkmpalbdpaaGreatDoor.G
open Go.RowKit

theorem ret_int {k : IntKind} {a b : Int} (h : a = b) : Ending.returned (.int k a) = .returned (.int k b) := by rw [h]
theorem ret_bool {a b : Bool} (h : a = b) : Ending.returned (.bool a) = .returned (.bool b) := by rw [h]
/-- A number that an int holds. -/
def I64 (v : Int) : Prop := -9223372036854775808 ≤ v ∧ v ≤ 9223372036854775807
theorem u64_in (n : Int) (h : 0 ≤ n ∧ n ≤ 18446744073709551615) : IntKind.u64.wrap n = n := by rw [IntKind.wrap_u64]; omega
theorem u64_neg (n : Int) (h : -9223372036854775808 ≤ n ∧ n < 0) : IntKind.u64.wrap (-(IntKind.u64.wrap n)) = -n := by rw [IntKind.wrap_u64, IntKind.wrap_u64]; omega

set_option maxHeartbeats 400000 in
theorem size_any (n : Int) (w : World) (hn : I64 n) : Calls Tryz.prog 305 #[.int .i64 n] w fun e w' => e = .returned (.int .u64 n.natAbs) ∧ w' = w := by
  obtain ⟨h1, h2⟩ := hn
  by_cases hneg : n < 0
  · have e1 := u64_neg n ⟨h1, hneg⟩
    have e2 : ((n.natAbs : Nat) : Int) = -n := by omega
    have E2 := Lib.hid e2
    clear e2
    go_enter Tryz.func305, Tryz.ntmps305
    go_wp2
    go_ret
    exact ⟨ret_int E2.out.symm, rfl⟩
  · have e1 := u64_in n ⟨by omega, by omega⟩
    have e2 : ((n.natAbs : Nat) : Int) = n := by omega
    have E2 := Lib.hid e2
    clear e2
    go_enter Tryz.func305, Tryz.ntmps305
    go_wp2
    go_ret
    exact ⟨ret_int E2.out.symm, rfl⟩

set_option maxRecDepth 100000 in
set_option maxHeartbeats 800000 in
theorem gcd_any (a b : Nat) (w : World) (ha : a ≤ 4611686018427387904) (hb : b ≤ 4611686018427387904) :
    Calls Tryz.prog 306 #[.int .u64 a, .int .u64 b] w fun e w' => e = .returned (.int .u64 (Nat.gcd a b : Nat)) ∧ ∃ z, w' = w.drewN z := by
  go_enter Tryz.func306, Tryz.ntmps306
  go_wp2
  go_loopw [0, 1] (fun x y wr => ∃ a' b' : Nat, x = .int .u64 a' ∧ y = .int .u64 b' ∧ Nat.gcd a' b' = Nat.gcd a b ∧ a' ≤ 4611686018427387904 ∧ b' ≤ 4611686018427387904 ∧ ∃ z, wr = w.drewN z) (fun _ y _ => (intOf y).toNat)
  case atStart => exact ⟨a, b, rfl, rfl, rfl, ha, hb, 0, rfl⟩
  case round =>
    obtain ⟨x, y, rfl, rfl, hg, hx, hy, z, rfl⟩ := hrel
    have HG := Lib.hid hg
    clear hg ha hb
    by_cases h0 : 0 < y
    · have hm : x % y < y := Nat.mod_lt _ h0
      have hgs : Nat.gcd y (x % y) = Nat.gcd x y := by rw [Nat.gcd_comm x y, Nat.gcd_rec y x, Nat.gcd_comm]
      have HS := Lib.hid hgs
      clear hgs
      go_wp2
      go_quiet (fail)
      go_wp2
      go_roundw
      case rel => exact ⟨y, x % y, rfl, by go_num, by rw [HS.out, HG.out], hy, by omega, z + nq, World.drewN_drewN _ _ _⟩
      case measure => simp [intOf]; omega
    · obtain rfl : y = 0 := by omega
      have hgz : Nat.gcd x 0 = x := Nat.gcd_zero_right x
      have HZ := Lib.hid hgz
      clear hgz
      go_wp2
      go_ret
      exact ⟨ret_int (by rw [← HG.out, HZ.out]), _, rfl⟩
end Go.Proofs.YtbkgbkmpalbdpaaGreatDoor.G

namespace DG

theorem pow_mono {b : Int} (hb : 1 ≤ b) (m : Nat) : ∀ n, m ≤ n → b ^ m ≤ b ^ n
  | 0, h => by rw [show m = 0 by omega]; exact Int.le_refl _
  | n + 1, h => by
    by_cases e : m = n + 1
    · rw [e]; exact Int.le_refl _
    · have ih := pow_mono hb m n (by omega)
      have hp : 0 < b ^ n := Int.pow_pos (by omega)
      have : b ^ n * 1 ≤ b ^ n * b := Int.mul_le_mul_of_nonneg_left hb (by omega)
      rw [Int.pow_succ]
      omega
/-- The sum of the first k digits times their powers. -/
def ds (b : Int) (f : Nat → Int) : Nat → Int
  | 0 => 0
  | k + 1 => ds b f k + f k * b ^ k
/-- The value of a list of digits. -/
def dv (b : Int) : List Int → Int
  | [] => 0
  | c :: cs => c + b * dv b cs
/-- All are digits. -/
def Dig (b : Int) (l : List Int) : Prop := ∀ x ∈ l, 0 ≤ x ∧ x < b
/-- No zeros behind. -/
def Norm (l : List Int) : Prop := ∀ h : l ≠ [], l.getLast h ≠ 0

theorem ds_shift (b : Int) (f : Nat → Int) : ∀ k, ds b f (k + 1) = f 0 + b * ds b (fun i => f (i + 1)) k
  | 0 => by simp [ds]
  | k + 1 => by
    rw [ds, ds_shift b f k, ds, Int.pow_succ]
    grind
theorem dv_ds (b : Int) : ∀ l : List Int, dv b l = ds b (fun i => l.getD i 0) l.length
  | [] => rfl
  | c :: cs => by
    rw [dv, dv_ds b cs, List.length_cons, ds_shift]
    simp
theorem dv_append (b : Int) (r : List Int) : ∀ l : List Int, dv b (l ++ r) = dv b l + b ^ l.length * dv b r
  | [] => by simp [dv]
  | c :: cs => by
    have := dv_append b r cs
    simp only [List.cons_append, dv, this, List.length_cons, Int.pow_succ]
    grind
theorem dv_zeros (b : Int) : ∀ n, dv b (List.replicate n 0) = 0
  | 0 => rfl
  | n + 1 => by simp [List.replicate_succ, dv, dv_zeros b n]
theorem Dig.nil (b : Int) : Dig b [] := by intro x h; simp at h
theorem Dig.cons {b c : Int} {cs : List Int} : Dig b (c :: cs) ↔ (0 ≤ c ∧ c < b) ∧ Dig b cs := by simp [Dig]
theorem Dig.append {b : Int} {l r : List Int} : Dig b (l ++ r) ↔ Dig b l ∧ Dig b r := by
  simp only [Dig, List.mem_append]
  exact ⟨fun h => ⟨fun x hx => h x (.inl hx), fun x hx => h x (.inr hx)⟩, fun h x hx => hx.elim (h.1 x) (h.2 x)⟩
theorem Dig.take {b : Int} {l : List Int} (h : Dig b l) (n : Nat) : Dig b (l.take n) := fun x hx => h x (List.mem_of_mem_take hx)
theorem Dig.getD {b : Int} (hb : 1 ≤ b) {l : List Int} (h : Dig b l) (k : Nat) : 0 ≤ l.getD k 0 ∧ l.getD k 0 < b := by
  simp only [List.getD]
  cases e : l[k]? with
  | none => simp; omega
  | some x => exact h x (List.mem_of_getElem? e)
theorem Dig.get {b : Int} {l : List Int} (h : Dig b l) {k : Nat} (hk : k < l.length) : 0 ≤ l[k] ∧ l[k] < b := h _ (List.getElem_mem hk)
theorem Dig.set {b : Int} {l : List Int} (h : Dig b l) (k : Nat) {v : Int} (hv : 0 ≤ v ∧ v < b) : Dig b (l.set k v) := fun x hx => by
  rcases List.mem_or_eq_of_mem_set hx with h1 | h1
  · exact h x h1
  · subst h1; exact hv
theorem Dig.zeros {b : Int} (hb : 1 ≤ b) (n : Nat) : Dig b (List.replicate n 0) := fun x hx => by
  rw [List.mem_replicate] at hx
  omega
theorem dv_nonneg {b : Int} (hb : 1 ≤ b) : ∀ l : List Int, Dig b l → 0 ≤ dv b l
  | [], _ => Int.le_refl _
  | c :: cs, h => by
    rw [Dig.cons] at h
    have := Int.mul_nonneg (show 0 ≤ b by omega) (dv_nonneg hb cs h.2)
    rw [dv]; omega
theorem dv_lt {b : Int} (hb : 1 ≤ b) : ∀ l : List Int, Dig b l → dv b l < b ^ l.length
  | [], _ => by simp [dv]
  | c :: cs, h => by
    rw [Dig.cons] at h
    have := dv_lt hb cs h.2
    have h3 : b * (dv b cs + 1) ≤ b * b ^ cs.length := Int.mul_le_mul_of_nonneg_left (by omega) (by omega)
    rw [dv, List.length_cons, Int.pow_succ, Int.mul_comm (b ^ cs.length)]
    rw [Int.mul_add] at h3
    omega
theorem Norm.tail {c : Int} {cs : List Int} (h : Norm (c :: cs)) : Norm cs := fun hne => by
  have := h (by simp)
  rwa [List.getLast_cons hne] at this
theorem dv_ge {b : Int} (hb : 1 ≤ b) : ∀ l : List Int, Dig b l → Norm l → l ≠ [] → b ^ (l.length - 1) ≤ dv b l
  | [], _, _, h => absurd rfl h
  | [c], hd, hn, _ => by
    have h1 := hn (by simp)
    have h2 := (Dig.cons.1 hd).1
    simp at h1
    simp [dv]
    omega
  | c :: d :: cs, hd, hn, _ => by
    rw [Dig.cons] at hd
    have ih := dv_ge hb (d :: cs) hd.2 hn.tail (by simp)
    have h3 := Int.mul_le_mul_of_nonneg_left ih (show 0 ≤ b by omega)
    rw [dv]
    simp only [List.length_cons, Nat.add_sub_cancel] at *
    rw [Int.pow_succ, Int.mul_comm (b ^ cs.length)]
    omega
theorem dv_zero_nil {b : Int} (hb : 1 ≤ b) {l : List Int} (hd : Dig b l) (hn : Norm l) : dv b l = 0 ↔ l = [] := by
  constructor
  · intro h
    by_cases h0 : l = []
    · exact h0
    · have := dv_ge hb l hd hn h0
      have hp : 0 < b ^ (l.length - 1) := Int.pow_pos (by omega)
      omega
  · intro h; subst h; rfl
theorem norm_len {b : Int} (hb : 2 ≤ b) {l : List Int} (hd : Dig b l) (hn : Norm l) {k : Nat} (h : dv b l < b ^ k) : l.length ≤ k := by
  rcases Nat.lt_or_ge k l.length with hk | hk
  · have h1 := dv_ge (by omega) l hd hn (by intro e; subst e; simp at hk)
    have h2 : b ^ k ≤ b ^ (l.length - 1) := pow_mono (by omega) _ _ (by omega)
    omega
  · exact hk
/-- Zeros behind are struck: n places are looked at. -/
def trimN (l : List Int) : Nat → Nat
  | 0 => 0
  | n + 1 => if l.getD n 0 = 0 then trimN l n else n + 1
def trim (l : List Int) : List Int := l.take (trimN l l.length)
theorem trimN_le (l : List Int) : ∀ n, trimN l n ≤ n
  | 0 => Nat.le_refl _
  | n + 1 => by
    have := trimN_le l n
    rw [trimN]
    split <;> omega
theorem trim_norm (l : List Int) : Norm (trim l) := by
  have : ∀ n, n ≤ l.length → Norm (l.take (trimN l n)) := by
    intro n
    induction n with
    | zero => intro _ h; simp [trimN] at h
    | succ n ih =>
      intro hn
      rw [trimN]
      split
      · exact ih (by omega)
      · rename_i h0
        intro hne
        rw [List.getLast_eq_getElem]
        simp only [List.length_take, List.getElem_take]
        have : min (n + 1) l.length - 1 = n := by omega
        simp only [this]
        simpa [List.getD, show n < l.length by omega] using h0
  exact this l.length (Nat.le_refl _)
theorem dv_take_zero (b : Int) (l : List Int) (n : Nat) (hn : n < l.length) (h : l.getD n 0 = 0) : dv b (l.take (n + 1)) = dv b (l.take n) := by
  rw [List.take_succ_eq_append_getElem hn, dv_append]
  have : l[n] = 0 := by simpa [List.getD, hn] using h
  rw [this]
  simp [dv]
theorem dv_trim (b : Int) (l : List Int) : dv b (trim l) = dv b l := by
  have : ∀ n, n ≤ l.length → dv b (l.take (trimN l n)) = dv b (l.take n) := by
    intro n
    induction n with
    | zero => intro _; rfl
    | succ n ih =>
      intro hn
      rw [trimN]
      split
      · rename_i h0
        rw [ih (by omega), dv_take_zero b l n (by omega) h0]
      · rfl
  have h := this l.length (Nat.le_refl _)
  rw [List.take_length] at h
  exact h
theorem Dig.trim {b : Int} {l : List Int} (h : Dig b l) : Dig b (trim l) := h.take _
theorem trim_length (l : List Int) : (trim l).length = trimN l l.length := by
  have := trimN_le l l.length
  simp [DG.trim]
  omega
/-- A sum, digit by digit: the carry into place i. -/
def carry (b : Int) (x y : Nat → Int) : Nat → Int
  | 0 => 0
  | i + 1 => (x i + y i + carry b x y i) / b
def sumD (b : Int) (x y : Nat → Int) (i : Nat) : Int := (x i + y i + carry b x y i) % b
theorem carry_bd {b : Int} (hb : 2 ≤ b) {x y : Nat → Int} (hx : ∀ i, 0 ≤ x i ∧ x i < b) (hy : ∀ i, 0 ≤ y i ∧ y i < b) : ∀ i, 0 ≤ carry b x y i ∧ carry b x y i ≤ 1
  | 0 => by simp [carry]
  | i + 1 => by
    have ih := carry_bd hb hx hy i
    have h1 := hx i
    have h2 := hy i
    rw [carry]
    constructor
    · exact Int.ediv_nonneg (by omega) (by omega)
    · have : (x i + y i + carry b x y i) / b < 2 := Int.ediv_lt_of_lt_mul (by omega) (by omega)
      omega
theorem sum_val (b : Int) (x y : Nat → Int) : ∀ k, ds b (sumD b x y) k + carry b x y k * b ^ k = ds b x k + ds b y k
  | 0 => by simp [ds, carry]
  | k + 1 => by
    have ih := sum_val b x y k
    have h := Int.emod_add_mul_ediv (x k + y k + carry b x y k) b
    simp only [ds, carry, sumD, Int.pow_succ] at *
    generalize (x k + y k + carry b x y k) % b = r at *
    generalize (x k + y k + carry b x y k) / b = d at *
    have e : r * b ^ k + d * (b ^ k * b) = (x k + y k + carry b x y k) * b ^ k := by rw [← h]; grind
    grind
/-- A difference, digit by digit: the borrow out of place i. -/
def borrow (x y : Nat → Int) : Nat → Int
  | 0 => 0
  | i + 1 => if x i - y i - borrow x y i < 0 then 1 else 0
def diffD (b : Int) (x y : Nat → Int) (i : Nat) : Int := (x i - y i - borrow x y i) % b
theorem borrow_bd (x y : Nat → Int) : ∀ i, 0 ≤ borrow x y i ∧ borrow x y i ≤ 1
  | 0 => by simp [borrow]
  | i + 1 => by rw [borrow]; split <;> omega
theorem diff_val {b : Int} (hb : 2 ≤ b) {x y : Nat → Int} (hx : ∀ i, 0 ≤ x i ∧ x i < b) (hy : ∀ i, 0 ≤ y i ∧ y i < b) : ∀ k, ds b (diffD b x y) k = ds b x k - ds b y k + borrow x y k * b ^ k
  | 0 => by simp [ds, borrow]
  | k + 1 => by
    have ih := diff_val hb hx hy k
    have hbo := borrow_bd x y k
    have h1 := hx k
    have h2 := hy k
    have e : diffD b x y k = x k - y k - borrow x y k + borrow x y (k + 1) * b := by
      unfold diffD
      rw [borrow]
      split
      · rename_i h
        rw [show x k - y k - borrow x y k = (x k - y k - borrow x y k + b) + b * (-1) by omega, Int.add_mul_emod_self_left, Int.emod_eq_of_lt (by omega) (by omega)]
        omega
      · rw [Int.emod_eq_of_lt (by omega) (by omega)]
        omega
    rw [ds, ds, ds, ih, e, Int.pow_succ]
    grind
theorem ds_nonneg {b : Int} (hb : 1 ≤ b) {f : Nat → Int} (hf : ∀ i, 0 ≤ f i) : ∀ k, 0 ≤ ds b f k
  | 0 => Int.le_refl _
  | k + 1 => by
    have := ds_nonneg hb hf k
    have hp : 0 < b ^ k := Int.pow_pos (by omega)
    have := Int.mul_nonneg (hf k) (Int.le_of_lt hp)
    rw [ds]; omega
theorem ds_lt {b : Int} (hb : 1 ≤ b) {f : Nat → Int} (hf : ∀ i, 0 ≤ f i ∧ f i < b) : ∀ k, ds b f k < b ^ k
  | 0 => by simp [ds]
  | k + 1 => by
    have ih := ds_lt hb hf k
    have h1 : f k * b ^ k ≤ (b - 1) * b ^ k := Int.mul_le_mul_of_nonneg_right (by have := hf k; omega) (Int.le_of_lt (Int.pow_pos (by omega)))
    rw [ds, Int.pow_succ]
    have : (b - 1) * b ^ k = b ^ k * b - b ^ k := by grind
    omega
/-- The borrow is the order. -/
theorem borrow_val {b : Int} (hb : 2 ≤ b) {x y : Nat → Int} (hx : ∀ i, 0 ≤ x i ∧ x i < b) (hy : ∀ i, 0 ≤ y i ∧ y i < b) (k : Nat) : borrow x y k = if ds b x k < ds b y k then 1 else 0 := by
  have h := diff_val hb hx hy k
  have hd : ∀ i, 0 ≤ diffD b x y i ∧ diffD b x y i < b := fun i => ⟨Int.emod_nonneg _ (by omega), Int.emod_lt_of_pos _ (by omega)⟩
  have h1 := ds_nonneg (show 1 ≤ b by omega) (fun i => (hd i).1) k
  have h2 := ds_lt (show 1 ≤ b by omega) hd k
  have hbo := borrow_bd x y k
  have hp : 0 < b ^ k := Int.pow_pos (by omega)
  have hc : borrow x y k = 0 ∨ borrow x y k = 1 := by omega
  rcases hc with hc | hc <;> rw [hc] at h ⊢
  · rw [if_neg (by omega)]
  · rw [if_pos (by omega)]
theorem ds_getD (b : Int) (l : List Int) : ∀ k, l.length ≤ k → ds b (fun i => l.getD i 0) k = dv b l
  | 0, h => by
    have : l = [] := List.eq_nil_of_length_eq_zero (by omega)
    subst this; rfl
  | k + 1, h => by
    by_cases e : l.length ≤ k
    · rw [ds, ds_getD b l k e, List.getD_eq_getElem?_getD, List.getElem?_eq_none (by omega)]
      simp
    · rw [show k + 1 = l.length by omega, dv_ds]

/-- The first k places are given by f, the others are 0. -/
def fillTo (f : Nat → Int) (n k : Nat) : List Int := (List.range n).map fun i => if i < k then f i else 0
theorem fillTo_zero (f : Nat → Int) (n : Nat) : fillTo f n 0 = List.replicate n 0 := by
  refine List.ext_getElem (by simp [fillTo]) fun i h1 h2 => ?_
  simp [fillTo]
theorem fillTo_set (f : Nat → Int) (n k : Nat) : (fillTo f n k).set k (f k) = fillTo f n (k + 1) := by
  refine List.ext_getElem (by simp [fillTo]) fun i h1 h2 => ?_
  simp only [fillTo, List.getElem_set, List.getElem_map, List.getElem_range]
  by_cases e : k = i
  · subst e; simp
  · rw [if_neg e]
    by_cases h : i < k
    · rw [if_pos h, if_pos (by omega)]
    · rw [if_neg h, if_neg (by omega)]
theorem fillTo_all (f : Nat → Int) (n : Nat) : fillTo f n n = (List.range n).map f := by
  refine List.ext_getElem (by simp [fillTo]) fun i h1 h2 => ?_
  simp only [fillTo, List.getElem_map, List.getElem_range]
  rw [if_pos (by simp [fillTo] at h1; exact h1)]
theorem fillTo_last (f : Nat → Int) (n : Nat) (v : Int) : (fillTo f (n + 1) n).set n v = (List.range n).map f ++ [v] := by
  refine List.ext_getElem (by simp [fillTo]) fun i h1 h2 => ?_
  simp only [fillTo, List.getElem_set, List.getElem_map, List.getElem_range, List.getElem_append, List.length_map, List.length_range]
  by_cases e : n = i
  · subst e; simp
  · rw [if_neg e]
    have : i < n := by simp [fillTo] at h1; omega
    rw [if_pos this, dif_pos this]
theorem dv_range (b : Int) (f : Nat → Int) : ∀ n, dv b ((List.range n).map f) = ds b f n
  | 0 => rfl
  | n + 1 => by
    rw [List.range_succ, List.map_append, dv_append, dv_range b f n]
    simp [dv, ds]
    grind
theorem Dig.range {b : Int} {f : Nat → Int} (h : ∀ i, 0 ≤ f i ∧ f i < b) (n : Nat) : Dig b ((List.range n).map f) := fun x hx => by
  obtain ⟨i, _, rfl⟩ := List.mem_map.1 hx
  exact h i
end DG
