/- Texts Ge Gf Gg Gh in one. -/
import Derived.Test.YtklngjjokbhfpaaGreatPkCk
import Derived.Test.YtklngjjokbhfpaaGreatCr
import Derived.Test.YtklngjjokbhfpaaGreatPkEd
import Derived.Test.YtklngjjokbhfpaaGreatEy
import Derived.Test.YtklngjjokbhfpaaGreatLz
namespace Go.Proofs.YtklngjjokbhfpaaGreat
open Go.RowKit

/-- n/d's distance to p/q, times d and q. -/
def dx (p q n d : Int) : Int := ((n * q - p * d).natAbs : Int)
/-- b is not worse than m/k. -/
def Bt (p q bn bd m k : Int) : Prop := dx p q bn bd * k ≤ dx p q m k * bd ∧ (dx p q bn bd * k = dx p q m k * bd → bd < k ∨ bd = k ∧ bn ≤ m)
/-- The best of all with denominators below D. -/
structure NB (p q D bn bd : Int) : Prop where
  d1 : 1 ≤ bd
  dm : bd < D ∨ D = 1 ∧ bd = 1 ∧ bn = p / q
  best : ∀ m k : Int, 1 ≤ k → k < D → Bt p q bn bd m k

theorem dx_nn (p q n d : Int) : 0 ≤ dx p q n d := by unfold dx; omega
theorem mul_lt_r {a b c : Int} (h : a < b) (hc : 0 < c) : a * c < b * c := Int.mul_lt_mul_of_pos_right h hc
theorem mul_le_r {a b c : Int} (h : a ≤ b) (hc : 0 ≤ c) : a * c ≤ b * c := Int.mul_le_mul_of_nonneg_right h hc

/-- What is nearer than one that is not worse is nearer. -/
theorem Bt.strict {p q bn bd m k yn yd : Int} (h : Bt p q bn bd m k) (hb : 0 < bd) (hk : 0 < k) (hy : 0 < yd) (hs : dx p q yn yd * bd < dx p q bn bd * yd) : dx p q yn yd * k < dx p q m k * yd := by
  have h1 := mul_lt_r hs hk
  have h2 := mul_le_r h.1 (Int.le_of_lt hy)
  have h3 : dx p q yn yd * k * bd < dx p q m k * yd * bd := by
    have e1 : dx p q yn yd * k * bd = dx p q yn yd * bd * k := by grind
    have e2 : dx p q bn bd * yd * k = dx p q bn bd * k * yd := by grind
    have e3 : dx p q m k * yd * bd = dx p q m k * bd * yd := by grind
    omega
  exact Int.lt_of_mul_lt_mul_right h3 (Int.le_of_lt hb)
theorem Bt.step {p q bn bd m k yn yd : Int} (h : Bt p q bn bd m k) (hb : 0 < bd) (hk : 0 < k) (hy : 0 < yd) (hs : dx p q yn yd * bd < dx p q bn bd * yd) : Bt p q yn yd m k := by
  have := h.strict hb hk hy hs
  exact ⟨by omega, fun e => by omega⟩

/-- The step: the new one, if it is nearer. -/
theorem NB.start {p q : Int} : NB p q 1 (p / q) 1 := ⟨by omega, Or.inr ⟨rfl, rfl, rfl⟩, fun m k h1 h2 => by omega⟩

/-- The distances of the fractions with the denominator D. -/
theorem dx_low {p q D m : Int} (hq : 0 < q) (h : m ≤ p * D / q) : dx p q m D = p * D % q + (p * D / q - m) * q ∧ dx p q (p * D / q) D = p * D % q := by
  have h1 := Int.mul_ediv_add_emod (p * D) q
  have h2 := Int.emod_nonneg (p * D) (show q ≠ 0 by omega)
  unfold dx
  have h3 : 0 ≤ (p * D / q - m) * q := Int.mul_nonneg (by omega) (by omega)
  have e1 : (p * D / q - m) * q = q * (p * D / q) - m * q := by grind
  have e2 : p * D / q * q = q * (p * D / q) := by grind
  rw [e2]
  generalize q * (p * D / q) = a at *
  constructor <;> omega
theorem dx_high {p q D m : Int} (hq : 0 < q) (h : p * D / q + 1 ≤ m) : dx p q m D = (m - p * D / q - 1) * q + (q - p * D % q) ∧ dx p q (p * D / q + 1) D = q - p * D % q := by
  have h1 := Int.mul_ediv_add_emod (p * D) q
  have h2 := Int.emod_lt_of_pos (p * D) hq
  unfold dx
  have h3 : 0 ≤ (m - p * D / q - 1) * q := Int.mul_nonneg (by omega) (by omega)
  have e1 : (m - p * D / q - 1) * q = m * q - q * (p * D / q) - q := by grind
  have e2 : (p * D / q + 1) * q = q * (p * D / q) + q := by grind
  rw [e2, e1]
  rw [e1] at h3
  generalize q * (p * D / q) = a at *
  constructor <;> omega
theorem pos_of_mul {a q : Int} (hq : 0 < q) (h : a * q = 0) : a = 0 := by
  rcases Int.mul_eq_zero.1 h with h | h
  · exact h
  · omega

section
variable {p q D bn bd : Int}
/-- The first try: the floor. Behind it the best is not worse than all below D, and than those with D up to the floor. -/
structure NH (p q D bn bd : Int) : Prop where
  d1 : 1 ≤ bd
  dm : bd < D ∨ bd = D ∧ bn = p * D / q
  best : ∀ m k : Int, 1 ≤ k → k < D → Bt p q bn bd m k
  low : ∀ m : Int, m ≤ p * D / q → Bt p q bn bd m D
theorem NB.try0 (h : NB p q D bn bd) (hq : 0 < q) (hD : 1 ≤ D) (hs : dx p q (p * D / q) D * bd < dx p q bn bd * D) : NH p q D (p * D / q) D := by
  refine ⟨hD, Or.inr ⟨rfl, rfl⟩, fun m k h1 h2 => (h.best m k h1 h2).step (by have := h.d1; omega) (by omega) (by omega) hs, fun m hm => ?_⟩
  obtain ⟨e1, e2⟩ := dx_low hq hm
  have h3 : 0 ≤ (p * D / q - m) * q := Int.mul_nonneg (by omega) (by omega)
  refine ⟨mul_le_r (by omega) (by omega), fun e => Or.inr ⟨rfl, ?_⟩⟩
  have e3 : dx p q (p * D / q) D = dx p q m D := Int.eq_of_mul_eq_mul_right (by omega) e
  have := pos_of_mul hq (show (p * D / q - m) * q = 0 by omega)
  omega
theorem NB.keep0 (h : NB p q D bn bd) (hq : 0 < q) (hD : 1 ≤ D) (hs : ¬ dx p q (p * D / q) D * bd < dx p q bn bd * D) : NH p q D bn bd := by
  have b1 := h.d1
  refine ⟨h.d1, ?_, h.best, fun m hm => ?_⟩
  · rcases h.dm with g | ⟨rfl, g2, g3⟩
    · exact Or.inl g
    · right; exact ⟨g2, by rw [g3]; simp⟩
  obtain ⟨e1, e2⟩ := dx_low hq hm
  have h3 : 0 ≤ (p * D / q - m) * q := Int.mul_nonneg (by omega) (by omega)
  have h4 := mul_le_r (show dx p q (p * D / q) D ≤ dx p q m D by omega) (show 0 ≤ bd by omega)
  refine ⟨by omega, fun e => ?_⟩
  rcases h.dm with g | ⟨rfl, rfl, rfl⟩
  · exact Or.inl g
  · right
    refine ⟨rfl, ?_⟩
    have e5 : p * 1 / q = p / q := by simp
    rw [← e5] at hs e ⊢
    have := pos_of_mul hq (show (p * 1 / q - m) * q = 0 by omega)
    omega
theorem NH.try1 (h : NH p q D bn bd) (hq : 0 < q) (hD : 1 ≤ D) (hs : dx p q (p * D / q + 1) D * bd < dx p q bn bd * D) : NB p q (D + 1) (p * D / q + 1) D := by
  have b1 := h.d1
  refine ⟨hD, Or.inl (by omega), fun m k h1 h2 => ?_⟩
  rcases (show k < D ∨ k = D by omega) with g | rfl
  · exact (h.best m k h1 g).step (by omega) (by omega) (by omega) hs
  · rcases (show m ≤ p * k / q ∨ p * k / q + 1 ≤ m by omega) with g | g
    · exact (h.low m g).step (by omega) (by omega) (by omega) hs
    · obtain ⟨e1, e2⟩ := dx_high hq g
      have h3 : 0 ≤ (m - p * k / q - 1) * q := Int.mul_nonneg (by omega) (by omega)
      refine ⟨mul_le_r (by omega) (by omega), fun e => Or.inr ⟨rfl, g⟩⟩
theorem NH.keep1 (h : NH p q D bn bd) (hq : 0 < q) (_hD : 1 ≤ D) (hs : ¬ dx p q (p * D / q + 1) D * bd < dx p q bn bd * D) : NB p q (D + 1) bn bd := by
  have b1 := h.d1
  refine ⟨h.d1, Or.inl (by rcases h.dm with g | ⟨g, _⟩ <;> omega), fun m k h1 h2 => ?_⟩
  rcases (show k < D ∨ k = D by omega) with g | rfl
  · exact h.best m k h1 g
  · rcases (show m ≤ p * k / q ∨ p * k / q + 1 ≤ m by omega) with g | g
    · exact h.low m g
    · obtain ⟨e1, e2⟩ := dx_high hq g
      have h3 : 0 ≤ (m - p * k / q - 1) * q := Int.mul_nonneg (by omega) (by omega)
      have h4 := mul_le_r (show dx p q (p * k / q + 1) k ≤ dx p q m k by omega) (show 0 ≤ bd by omega)
      refine ⟨by omega, fun e => ?_⟩
      rcases h.dm with g2 | ⟨g2, g3⟩
      · exact Or.inl g2
      · exact Or.inr ⟨g2, by omega⟩
/-- Beyond q the best is exact. -/
theorem NB.zero (h : NB p q D bn bd) (hq : 0 < q) (hD : q < D) : dx p q bn bd = 0 := by
  have h1 := (h.best p q (by omega) hD).1
  have h2 : dx p q p q = 0 := by unfold dx; simp
  rw [h2] at h1
  have h3 := dx_nn p q bn bd
  have h4 : dx p q bn bd * q ≤ 0 := by simpa using h1
  have h5 := Int.mul_nonneg h3 (Int.le_of_lt hq)
  exact pos_of_mul hq (by omega)
theorem NB.never (h : NB p q D bn bd) (hq : 0 < q) (hD : q < D) (n : Int) (k : Int) : ¬ dx p q n k * bd < dx p q bn bd * k := by
  rw [h.zero hq hD]
  have h1 := Int.mul_nonneg (dx_nn p q n k) (show 0 ≤ bd by have := h.d1; omega)
  omega
theorem NB.more (h : NB p q D bn bd) (hq : 0 < q) (hD : q < D) : NB p q (D + 1) bn bd := by
  have hz := h.zero hq hD
  have b1 := h.d1
  have b2 : bd < D := by rcases h.dm with g | ⟨g, _⟩ <;> omega
  refine ⟨b1, Or.inl (by omega), fun m k h1 h2 => ?_⟩
  rcases (show k < D ∨ k = D by omega) with g | rfl
  · exact h.best m k h1 g
  · refine ⟨?_, fun _ => Or.inl b2⟩
    rw [hz]
    have := Int.mul_nonneg (dx_nn p q m k) (show 0 ≤ bd by omega)
    omega
theorem NB.done {most : Int} (h : NB p q (most + 1) bn bd) (hm : 1 ≤ most) : Near p q most bn bd := by
  have b1 := h.d1
  have b2 : bd ≤ most := by rcases h.dm with g | ⟨g, _⟩ <;> omega
  refine ⟨b1, b2, ?_, fun m k h1 h2 => (h.best m k h1 (by omega)).1, fun m k h1 h2 => (h.best m k h1 (by omega)).2⟩
  obtain ⟨g, hg⟩ : ∃ g, g = Nat.gcd bn.natAbs bd.natAbs := ⟨_, rfl⟩
  rw [← hg]
  have g0 : 0 < g := by rw [hg]; exact Nat.gcd_pos_of_pos_right _ (by omega)
  obtain ⟨m, hm2⟩ : (g : Int) ∣ bn := by rw [hg]; exact Int.ofNat_dvd_left.2 (Nat.gcd_dvd_left _ _)
  obtain ⟨k, hk2⟩ : (g : Int) ∣ bd := by rw [hg]; exact Int.ofNat_dvd_left.2 (Nat.gcd_dvd_right _ _)
  have k0 : 0 < k := by
    by_cases hk : 0 < k
    · exact hk
    · have := Int.mul_nonpos_of_nonneg_of_nonpos (show (0 : Int) ≤ g by omega) (show k ≤ 0 by omega)
      omega
  by_cases hg1 : g = 1
  · exact hg1
  · exfalso
    have hkb : k < bd := by
      have := mul_lt_r (show (1 : Int) < g by omega) k0
      omega
    have he : dx p q bn bd = g * dx p q m k := by
      unfold dx
      rw [show bn * q - p * bd = (g : Int) * (m * q - p * k) by rw [hm2, hk2]; grind]
      rw [Int.natAbs_mul]
      simp
    have := (h.best m k (by omega) (by omega)).2 (by rw [he, hk2]; grind)
    omega
end

end Go.Proofs.YtklngjjokbhfpaaGreat

namespace Go.Proofs.YtklngjjokbhfpaaGreat
open Go.RowKit

theorem smallV_form (z : Int) : ∃ (n : Int) (b : Bool × Unit), smallV z = .tuple #[.int .i64 n, .bool b.1] ∧ -4611686018427387904 ≤ n ∧ n ≤ 4611686018427387904 ∧ (-4611686018427387904 ≤ z → z ≤ 4611686018427387904 → n = z) := by
  unfold smallV
  split
  · exact ⟨z, (true, ()), rfl, by omega, by omega, fun _ _ => rfl⟩
  · exact ⟨0, (false, ()), rfl, by omega, by omega, fun _ _ => by omega⟩
theorem IsR.storedT {w : World} {v : Value} {z : Int} {N R : Nat} {u0 u1 : Value} {t : TypeId} (h : IsR w v z N) (hR : Two w R (.bool false) (.slice none 0 0) t) : IsR ((w.setCell ⟨R, 0, none⟩ u0).setCell ⟨R, 1, none⟩ u1) v z N := h.stored hR

/-- The state within the two tries of a denominator. -/
def St (p q D : Int) (k : Nat) (bn bd : Int) : Prop := (k = 0 → NB p q D bn bd) ∧ (k = 1 → (D ≤ q → NH p q D bn bd) ∧ (q < D → NB p q D bn bd)) ∧ (k = 2 → NB p q (D + 1) bn bd)
theorem St.try' {p q D bn bd n0 : Int} {k : Nat} (h : St p q D k bn bd) (hk : k < 2) (hq : 0 < q) (hD : 1 ≤ D) (hn : D ≤ q → n0 = p * D / q) (hs : dx p q (n0 + k) D * bd < dx p q bn bd * D) : St p q D (k + 1) (n0 + k) D := by
  obtain ⟨a, b, c⟩ := h
  by_cases g : D ≤ q
  · obtain rfl := hn g
    rcases (show k = 0 ∨ k = 1 by omega) with rfl | rfl
    · simp at hs ⊢
      exact ⟨fun e => by omega, fun _ => ⟨fun _ => (a rfl).try0 hq hD hs, fun e => by omega⟩, fun e => by omega⟩
    · simp at hs ⊢
      exact ⟨fun e => by omega, fun e => by omega, fun _ => ((b rfl).1 g).try1 hq hD hs⟩
  · exfalso
    rcases (show k = 0 ∨ k = 1 by omega) with rfl | rfl
    · exact (a rfl).never hq (by omega) _ _ hs
    · exact ((b rfl).2 (by omega)).never hq (by omega) _ _ hs
theorem St.keep' {p q D bn bd n0 : Int} {k : Nat} (h : St p q D k bn bd) (hk : k < 2) (hq : 0 < q) (hD : 1 ≤ D) (hn : D ≤ q → n0 = p * D / q) (hs : ¬ dx p q (n0 + k) D * bd < dx p q bn bd * D) : St p q D (k + 1) bn bd := by
  obtain ⟨a, b, c⟩ := h
  by_cases g : D ≤ q
  · obtain rfl := hn g
    rcases (show k = 0 ∨ k = 1 by omega) with rfl | rfl
    · simp at hs ⊢
      exact ⟨fun e => by omega, fun _ => ⟨fun _ => (a rfl).keep0 hq hD (Int.not_lt.2 hs), fun e => by omega⟩, fun e => by omega⟩
    · simp at hs ⊢
      exact ⟨fun e => by omega, fun e => by omega, fun _ => ((b rfl).1 g).keep1 hq hD (Int.not_lt.2 hs)⟩
  · rcases (show k = 0 ∨ k = 1 by omega) with rfl | rfl
    · exact ⟨fun e => by omega, fun _ => ⟨fun e => by omega, fun _ => a rfl⟩, fun e => by omega⟩
    · exact ⟨fun e => by omega, fun e => by omega, fun _ => ((b rfl).2 (by omega)).more hq (by omega)⟩

set_option maxRecDepth 100000 in
set_option maxHeartbeats 1600000 in
theorem rround_n {w : World} {u : Value} {p q zn : Int} {bb : Bool × Unit} {N : Nat} (hu : IsRQ w u p q N) (hN : N ≤ 200) (hq : 0 < q) (hsv : smallV (p / q) = .tuple #[.int .i64 zn, .bool bb.1]) :
    Calls Tryz.prog 71 #[u] w (RetV (.int .i64 zn) w) := by
  obtain ⟨pa0, A0, n0, c0, pb0, B0, m0, d0, rfl, hp0, hq0⟩ := hu.open'
  have cd : ∀ W, Below w.heap.size w W → Calls Tryz.prog 98 #[.agg #[.bool pa0.1, .slice A0 n0 c0], .agg #[.bool pb0.1, .slice B0 m0 d0]] W (RetDM p q (N + 1) (N + 3) W) := fun W hb => rdivmod_any (hp0.below hb) (hq0.below hb) (by omega) (by omega) hq
  have cs : ∀ W (_ : Below w.heap.size w W) v, IsR W v (p / q) (N + 1) → Calls Tryz.prog 53 #[v] W (RetW (.tuple #[.int .i64 zn, .bool bb.1]) W) := fun W _ v h => by
    have := rsmall_any h (by omega)
    rw [hsv] at this
    exact this.mono fun e w' h => RetW.of h
  clear hu hp0 hq0 hsv
  obtain ⟨W3, hW3⟩ : ∃ W3, W3 = (w.alloc (.cells #[.bool pa0.1, .slice A0 n0 c0, .bool pb0.1, .slice B0 m0 d0] 40)) := ⟨_, rfl⟩
  have hB : Below w.heap.size w W3 := by rw [hW3]; exact ((Below.refl _ _).alloc (Nat.le_refl _) _)
  have HBW := Lib.hid hB
  have HF := Lib.hid (show Four W3 (w.heap.size) (.bool pa0.1) (.slice A0 n0 c0) (.bool pb0.1) (.slice B0 m0 d0) 40 by rw [hW3]; exact (Four.newAt _ _ _ _ _ _ _ (by simp)))
  clear hB
  go_enter Tryz.func71, Tryz.ntmps71
  go_upto_region 1 with fail
  rw [← hW3]
  clear hW3
  have k0 := HF.out.cell0
  have k1 := HF.out.cell1
  have k2 := HF.out.cell2
  have k3 := HF.out.cell3
  have cc := cd _ HBW.out
  go_wp2_with fail
  refine cc.mono ?_
  rintro e V1 ⟨v1, v2, rfl, h1, h2, hn1⟩
  clear cc cd k0 k1 k2 k3
  obtain ⟨p5, A5, n5, c5, rfl⟩ := h1.agg'
  obtain ⟨p6, A6, n6, c6, rfl⟩ := h2.agg'
  generalize p / q = z at *
  generalize p % q = zr at *
  obtain ⟨U, hU⟩ : ∃ U, U = (V1.alloc (.cells #[.bool p5.1, .slice A5 n5 c5] 38)).alloc (.cells #[.bool p6.1, .slice A6 n6 c6] 38) := ⟨_, rfl⟩
  have hbV : Below V1.heap.size V1 U := by rw [hU]; exact ((Below.refl _ _).alloc (Nat.le_refl _) _).alloc (by simp) _
  have T1 : Two U V1.heap.size (.bool p5.1) (.slice A5 n5 c5) 38 := by rw [hU]; exact (Two.newAt _ _ _ _ _ rfl).alloc _
  have hz := h1.below hbV
  have hw := HBW.out.trans ((hn1.trans (hbV.mono hn1.size)).mono HBW.out.size)
  have k0 := T1.cell0
  have k1 := T1.cell1
  have c2 := cs U hw _ hz
  have HW := Lib.hid hw
  clear hn1 hbV T1 h1 h2 hz hw cs
  go_upto_region 2 with fail
  rw [← hU]
  clear hU
  go_wp2_with fail
  refine c2.mono ?_
  rintro e V2 ⟨v2, rfl, hm2, hn2⟩
  subst hm2
  have HE := Lib.hid (HW.out.trans (hn2.mono HW.out.size))
  clear c2 hn2
  go_wp2
  go_ret
  exact ⟨rfl, HE.out⟩


set_option maxRecDepth 100000 in
set_option maxHeartbeats 1600000 in
theorem rfloor_any {p q zn : Int} {bb : Bool × Unit} (w : World) (hp : I64 p) (hq : I64 q) (hq0 : 0 < q) (hsv : smallV (p / q) = .tuple #[.int .i64 zn, .bool bb.1]) :
    Calls Tryz.prog 70 #[.agg #[.int .i64 p, .int .i64 q]] w (RetV (.int .i64 zn) w) := by
  have ci1 : ∀ W (_ : Below w.heap.size w W), Calls Tryz.prog 57 #[.int .i64 p] W (RetR p 5 W) := fun W _ => rint_any p W hp
  have ci2 : ∀ W (_ : Below w.heap.size w W), Calls Tryz.prog 57 #[.int .i64 q] W (RetR q 5 W) := fun W _ => rint_any q W hq
  have cd : ∀ W (_ : Below w.heap.size w W) u v, IsR W u p 5 → IsR W v q 5 → Calls Tryz.prog 98 #[u, v] W (RetDM p q 6 8 W) := fun W _ u v h1 h2 => rdivmod_any h1 h2 (by omega) (by omega) hq0
  have cs : ∀ W (_ : Below w.heap.size w W) v, IsR W v (p / q) 6 → Calls Tryz.prog 53 #[v] W (RetW (.tuple #[.int .i64 zn, .bool bb.1]) W) := fun W _ v h => by
    have := rsmall_any h (by omega)
    rw [hsv] at this
    exact this.mono fun e w' h => RetW.of h
  clear hp hq hq0 hsv
  have cd' : ∀ W (_ : Below w.heap.size w W) u v, IsR W u p 5 → IsR W v q 5 → Calls Tryz.prog 98 #[u, v] W (fun e w' => ∃ v1 v2, e = .returned (.tuple #[v1, v2]) ∧ (IsR w' v1 (p / q) 6 ∧ ∃ (p2 : Bool × Unit) (A2 : Option Addr) (n2 c2 : Nat), v2 = .agg #[.bool p2.1, .slice A2 n2 c2]) ∧ Below W.heap.size W w') := fun W hW u v h1 h2 => (cd W hW u v h1 h2).mono fun e w' ⟨v1, v2, a, b, c, d⟩ => ⟨v1, v2, a, ⟨b, c.agg'⟩, d⟩
  clear cd
  generalize p / q = z at *
  obtain ⟨W3, hW3⟩ : ∃ W3, W3 = (w.alloc (.cells #[.int .i64 p, .int .i64 q] 28)) := ⟨_, rfl⟩
  have hB : Below w.heap.size w W3 := by rw [hW3]; exact ((Below.refl _ _).alloc (Nat.le_refl _) _)
  have HBW := Lib.hid hB
  have HF := Lib.hid (show Two W3 (w.heap.size) (.int .i64 p) (.int .i64 q) 28 by rw [hW3]; exact (Two.newAt _ _ _ _ _ (by simp)))
  clear hB
  go_enter Tryz.func70, Tryz.ntmps70
  go_upto_region 1 with fail
  rw [← hW3]
  clear hW3
  refine Lex.wp_region_mix (fun w' => Two w' w.heap.size (.int .i64 p) (.int .i64 q) 28)
    [(0, 8), (1, 9), (2, 10), (3, 11), (4, 12), (5, 13), (6, 14), (7, 7), (8, 15), (9, 16), (10, 3), (11, 4)] (fun j => j == 0 || j == 1 || j == 3 || j == 4 || j == 9) (fun j => j == 10 || j == 11) [(12, false), (13, false)]
    (fun i v w' => match i with | 0 => v = .pointer (some ⟨w.heap.size, 0, none⟩) | 1 => v = .int .i64 p | 2 => IsR w' v p 5 | 3 => v = .pointer (some ⟨w.heap.size, 1, none⟩) | 4 => v = .int .i64 q | 5 => IsR w' v q 5 | 6 => ∃ v1 v2, v = .tuple #[v1, v2] ∧ IsR w' v1 z 6 ∧ ∃ (p2 : Bool × Unit) (A2 : Option Addr) (n2 c2 : Nat), v2 = .agg #[.bool p2.1, .slice A2 n2 c2] | 7 => ∃ v1 v2, v = .tuple #[v1, v2] ∧ IsR w' v1 z 6 ∧ ∃ (p2 : Bool × Unit) (A2 : Option Addr) (n2 c2 : Nat), v2 = .agg #[.bool p2.1, .slice A2 n2 c2] | 8 => IsR w' v z 6 | 9 => ∃ (p2 : Bool × Unit) (A2 : Option Addr) (n2 c2 : Nat), v = .agg #[.bool p2.1, .slice A2 n2 c2] | 10 => ∃ B, v = .pointer (some ⟨B, 0, none⟩) ∧ W3.heap.size ≤ B ∧ Two w' B (.bool false) (.slice none 0 0) 38 | 11 => ∃ B, v = .pointer (some ⟨B, 0, none⟩) ∧ W3.heap.size ≤ B ∧ Two w' B (.bool false) (.slice none 0 0) 38 | _ => False)
    (by kernel_rfl) (by kernel_rfl) (by kernel_rfl) HF.out (fun w1 w2 hS hb => hS.below hb hS.lt) ?_ ?_ ?_
  · refine Lex.all_cons ?_ (Lex.all_cons ?_ (Lex.all_cons ?_ (Lex.all_cons ?_ (Lex.all_cons ?_ (Lex.all_cons ?_ (Lex.all_cons ?_ (Lex.all_cons ?_ (Lex.all_cons ?_ (Lex.all_cons ?_ (Lex.all_cons ?_ (Lex.all_cons ?_ (Lex.all_nil))))))))))))
    · exact fun v w1 w2 h _ => h
    · exact fun v w1 w2 h _ => h
    · exact fun v w1 w2 h hb => IsR.below h hb
    · exact fun v w1 w2 h _ => h
    · exact fun v w1 w2 h _ => h
    · exact fun v w1 w2 h hb => IsR.below h hb
    · exact fun v w1 w2 ⟨v1, v2, h1, h2, h3⟩ hb => ⟨v1, v2, h1, h2.below hb, h3⟩
    · exact fun v w1 w2 ⟨v1, v2, h1, h2, h3⟩ hb => ⟨v1, v2, h1, h2.below hb, h3⟩
    · exact fun v w1 w2 h hb => IsR.below h hb
    · exact fun v w1 w2 h _ => h
    · exact fun v w1 w2 ⟨B, hv, hl, hT⟩ hb => ⟨B, hv, hl, hT.below hb hT.lt⟩
    · exact fun v w1 w2 ⟨B, hv, hl, hT⟩ hb => ⟨B, hv, hl, hT.below hb hT.lt⟩
  · refine Lex.all_cons ?_ (Lex.all_cons ?_ (Lex.all_cons ?_ (Lex.all_cons ?_ (Lex.all_cons ?_ (Lex.all_cons ?_ (Lex.all_cons ?_ (Lex.all_cons ?_ (Lex.all_cons ?_ (Lex.all_cons ?_ (Lex.all_cons ?_ (Lex.all_cons ?_ (Lex.all_nil))))))))))))
    · refine Lex.ob_eager rfl rfl (fun σ w1 hS hB hg => ⟨.pointer (some ⟨w.heap.size, 0, none⟩), rfl, fun w2 hS => ?_, rfl⟩)
      clear hg
      simp only [Lex.full, Act.put, List.setIfInBounds_toArray, List.set_cons_zero, List.set_cons_succ]
      clear hS
      go_simp
      all_goals with_reducible rfl
    · refine Lex.ob_eager rfl rfl (fun σ w1 hS hB hg => ⟨.int .i64 p, rfl, fun w2 hS => ?_, rfl⟩)
      have g0 : (σ 0) = .pointer (some ⟨w.heap.size, 0, none⟩) := hg (0, 8) (by simp) (by kernel_rfl)
      clear hg
      simp only [Lex.full, Act.put, List.setIfInBounds_toArray, List.set_cons_zero, List.set_cons_succ]
      have f0_0 := hS.cell0
      have f0_1 := hS.cell1
      clear hS
      simp only [g0]
      go_simp
      all_goals with_reducible rfl
    · refine Lex.ob_step rfl rfl rfl (fun σ w1 hS hB hg K hK => ?_)
      have HK := Lib.hid hK
      clear hK
      have g1 : (σ 1) = .int .i64 p := hg (1, 9) (by simp) (by kernel_rfl)
      clear hg
      simp only [Lex.full, Act.put, List.setIfInBounds_toArray, List.set_cons_zero, List.set_cons_succ]
      simp only [g1]
      have hw1 : Below w.heap.size w w1 := HBW.out.drew.trans (hB.mono HBW.out.size)
      have cc := ci1 w1 hw1
      go_wp2_with fail
      refine cc.mono ?_
      rintro e w2 ⟨v1, rfl, hm, hn⟩
      clear cc
      go_wp2_with fail
      exact HK.out _ _ ⟨rfl, hn, hm, fun h => nomatch h⟩
    · refine Lex.ob_eager rfl rfl (fun σ w1 hS hB hg => ⟨.pointer (some ⟨w.heap.size, 1, none⟩), rfl, fun w2 hS => ?_, rfl⟩)
      clear hg
      simp only [Lex.full, Act.put, List.setIfInBounds_toArray, List.set_cons_zero, List.set_cons_succ]
      clear hS
      go_simp
      all_goals with_reducible rfl
    · refine Lex.ob_eager rfl rfl (fun σ w1 hS hB hg => ⟨.int .i64 q, rfl, fun w2 hS => ?_, rfl⟩)
      have g3 : (σ 3) = .pointer (some ⟨w.heap.size, 1, none⟩) := hg (3, 11) (by simp) (by kernel_rfl)
      clear hg
      simp only [Lex.full, Act.put, List.setIfInBounds_toArray, List.set_cons_zero, List.set_cons_succ]
      have f0_0 := hS.cell0
      have f0_1 := hS.cell1
      clear hS
      simp only [g3]
      go_simp
      all_goals with_reducible rfl
    · refine Lex.ob_step rfl rfl rfl (fun σ w1 hS hB hg K hK => ?_)
      have HK := Lib.hid hK
      clear hK
      have g4 : (σ 4) = .int .i64 q := hg (4, 12) (by simp) (by kernel_rfl)
      clear hg
      simp only [Lex.full, Act.put, List.setIfInBounds_toArray, List.set_cons_zero, List.set_cons_succ]
      simp only [g4]
      have hw1 : Below w.heap.size w w1 := HBW.out.drew.trans (hB.mono HBW.out.size)
      have cc := ci2 w1 hw1
      go_wp2_with fail
      refine cc.mono ?_
      rintro e w2 ⟨v1, rfl, hm, hn⟩
      clear cc
      go_wp2_with fail
      exact HK.out _ _ ⟨rfl, hn, hm, fun h => nomatch h⟩
    · refine Lex.ob_step rfl rfl rfl (fun σ w1 hS hB hg K hK => ?_)
      have HK := Lib.hid hK
      clear hK
      have g2 : IsR w1 (σ 2) p 5 := hg (2, 10) (by simp) (by kernel_rfl)
      have g5 : IsR w1 (σ 5) q 5 := hg (5, 13) (by simp) (by kernel_rfl)
      clear hg
      simp only [Lex.full, Act.put, List.setIfInBounds_toArray, List.set_cons_zero, List.set_cons_succ]
      have hw1 : Below w.heap.size w w1 := HBW.out.drew.trans (hB.mono HBW.out.size)
      have cc := cd' w1 hw1 _ _ g2 g5
      go_wp2_with fail
      refine cc.mono ?_
      rintro e w2 ⟨v1, v2, rfl, hm, hn⟩
      clear cc
      go_wp2_with fail
      exact HK.out _ _ ⟨rfl, hn, ⟨v1, v2, rfl, hm⟩, fun h => nomatch h⟩
    · refine Lex.ob_step rfl rfl rfl (fun σ w1 hS hB hg K hK => ?_)
      have HK := Lib.hid hK
      clear hK
      have g6 : ∃ v1 v2, (σ 6) = .tuple #[v1, v2] ∧ IsR w1 v1 z 6 ∧ ∃ (p2 : Bool × Unit) (A2 : Option Addr) (n2 c2 : Nat), v2 = .agg #[.bool p2.1, .slice A2 n2 c2] := hg (6, 14) (by simp) (by kernel_rfl)
      clear hg
      simp only [Lex.full, Act.put, List.setIfInBounds_toArray, List.set_cons_zero, List.set_cons_succ]
      obtain ⟨v1, v2, e1, hz, hr⟩ := g6
      simp only [e1]
      go_wp2_with fail
      exact HK.out _ _ ⟨rfl, Below.refl _ _, ⟨v1, v2, rfl, hz, hr⟩, fun h => nomatch h⟩
    · refine Lex.ob_step rfl rfl rfl (fun σ w1 hS hB hg K hK => ?_)
      have HK := Lib.hid hK
      clear hK
      have g7 : ∃ v1 v2, (σ 7) = .tuple #[v1, v2] ∧ IsR w1 v1 z 6 ∧ ∃ (p2 : Bool × Unit) (A2 : Option Addr) (n2 c2 : Nat), v2 = .agg #[.bool p2.1, .slice A2 n2 c2] := hg (7, 7) (by simp) (by kernel_rfl)
      clear hg
      simp only [Lex.full, Act.put, List.setIfInBounds_toArray, List.set_cons_zero, List.set_cons_succ]
      obtain ⟨v1, v2, e1, hz, hr⟩ := g7
      simp only [e1]
      go_wp2_with fail
      exact HK.out _ _ ⟨rfl, Below.refl _ _, hz, fun h => nomatch h⟩
    · refine Lex.ob_eager rfl rfl (fun σ w1 hS hB hg => ?_)
      have g7 : ∃ v1 v2, (σ 7) = .tuple #[v1, v2] ∧ IsR w1 v1 z 6 ∧ ∃ (p2 : Bool × Unit) (A2 : Option Addr) (n2 c2 : Nat), v2 = .agg #[.bool p2.1, .slice A2 n2 c2] := hg (7, 7) (by simp) (by kernel_rfl)
      clear hg
      obtain ⟨v1, v2, e1, hz, hr⟩ := g7
      refine ⟨v2, rfl, fun w2 hS => ?_, hr⟩
      simp only [Lex.full, Act.put, List.setIfInBounds_toArray, List.set_cons_zero, List.set_cons_succ]
      clear hS
      simp only [e1]
      go_simp
      all_goals with_reducible rfl
    · refine Lex.ob_step rfl rfl rfl (fun σ w1 hS hB hg K hK => ?_)
      have HK := Lib.hid hK
      clear hK
      clear hg
      simp only [Lex.full, Act.put, List.setIfInBounds_toArray, List.set_cons_zero, List.set_cons_succ]
      go_wp2_with fail
      refine HK.out _ _ ⟨rfl, (Below.refl _ _).alloc (Nat.le_refl _) _, ⟨w1.heap.size, rfl, show W3.heap.size ≤ _ from hB.size, Two.newAt _ _ _ _ _ rfl⟩, fun _ => ?_⟩
      refine Lex.all_cons ?_ (Lex.all_cons ?_ (Lex.all_cons ?_ (Lex.all_cons ?_ (Lex.all_cons ?_ (Lex.all_cons ?_ (Lex.all_cons ?_ (Lex.all_cons ?_ (Lex.all_cons ?_ (Lex.all_cons ?_ (Lex.all_cons ?_ (Lex.all_cons ?_ (Lex.all_nil))))))))))))
      · intro u h; cases h
      · intro u h; cases h
      · intro u h; cases h
      · intro u h; cases h
      · intro u h; cases h
      · intro u h; cases h
      · intro u h; cases h
      · intro u h; cases h
      · intro u h; cases h
      · intro u h; cases h
      · rintro u _ ⟨B, rfl, _, hT⟩ he; have := hT.lt; have he : Value.pointer (some ⟨B, 0, none⟩) = .pointer (some ⟨w1.heap.size, 0, none⟩) := he; injection he with he; injection he with he; injection he with he; omega
      · rintro u _ ⟨B, rfl, _, hT⟩ he; have := hT.lt; have he : Value.pointer (some ⟨B, 0, none⟩) = .pointer (some ⟨w1.heap.size, 0, none⟩) := he; injection he with he; injection he with he; injection he with he; omega
    · refine Lex.ob_step rfl rfl rfl (fun σ w1 hS hB hg K hK => ?_)
      have HK := Lib.hid hK
      clear hK
      clear hg
      simp only [Lex.full, Act.put, List.setIfInBounds_toArray, List.set_cons_zero, List.set_cons_succ]
      go_wp2_with fail
      refine HK.out _ _ ⟨rfl, (Below.refl _ _).alloc (Nat.le_refl _) _, ⟨w1.heap.size, rfl, show W3.heap.size ≤ _ from hB.size, Two.newAt _ _ _ _ _ rfl⟩, fun _ => ?_⟩
      refine Lex.all_cons ?_ (Lex.all_cons ?_ (Lex.all_cons ?_ (Lex.all_cons ?_ (Lex.all_cons ?_ (Lex.all_cons ?_ (Lex.all_cons ?_ (Lex.all_cons ?_ (Lex.all_cons ?_ (Lex.all_cons ?_ (Lex.all_cons ?_ (Lex.all_cons ?_ (Lex.all_nil))))))))))))
      · intro u h; cases h
      · intro u h; cases h
      · intro u h; cases h
      · intro u h; cases h
      · intro u h; cases h
      · intro u h; cases h
      · intro u h; cases h
      · intro u h; cases h
      · intro u h; cases h
      · intro u h; cases h
      · rintro u _ ⟨B, rfl, _, hT⟩ he; have := hT.lt; have he : Value.pointer (some ⟨B, 0, none⟩) = .pointer (some ⟨w1.heap.size, 0, none⟩) := he; injection he with he; injection he with he; injection he with he; omega
      · rintro u _ ⟨B, rfl, _, hT⟩ he; have := hT.lt; have he : Value.pointer (some ⟨B, 0, none⟩) = .pointer (some ⟨w1.heap.size, 0, none⟩) := he; injection he with he; injection he with he; injection he with he; omega
  · intro σ V1_ hS hB hg hd
    have e0 : (σ 0) = .pointer (some ⟨w.heap.size, 0, none⟩) := hg (0, 8) (by simp)
    have e1 : (σ 1) = .int .i64 p := hg (1, 9) (by simp)
    have e2 : IsR V1_ (σ 2) p 5 := hg (2, 10) (by simp)
    have e3 : (σ 3) = .pointer (some ⟨w.heap.size, 1, none⟩) := hg (3, 11) (by simp)
    have e4 : (σ 4) = .int .i64 q := hg (4, 12) (by simp)
    have e5 : IsR V1_ (σ 5) q 5 := hg (5, 13) (by simp)
    have e6 : ∃ v1 v2, (σ 6) = .tuple #[v1, v2] ∧ IsR V1_ v1 z 6 ∧ ∃ (p2 : Bool × Unit) (A2 : Option Addr) (n2 c2 : Nat), v2 = .agg #[.bool p2.1, .slice A2 n2 c2] := hg (6, 14) (by simp)
    have e7 : ∃ v1 v2, (σ 7) = .tuple #[v1, v2] ∧ IsR V1_ v1 z 6 ∧ ∃ (p2 : Bool × Unit) (A2 : Option Addr) (n2 c2 : Nat), v2 = .agg #[.bool p2.1, .slice A2 n2 c2] := hg (7, 7) (by simp)
    have e8 : IsR V1_ (σ 8) z 6 := hg (8, 15) (by simp)
    have e9 : ∃ (p2 : Bool × Unit) (A2 : Option Addr) (n2 c2 : Nat), (σ 9) = .agg #[.bool p2.1, .slice A2 n2 c2] := hg (9, 16) (by simp)
    have e10 : ∃ B, (σ 10) = .pointer (some ⟨B, 0, none⟩) ∧ W3.heap.size ≤ B ∧ Two V1_ B (.bool false) (.slice none 0 0) 38 := hg (10, 3) (by simp)
    have e11 : ∃ B, (σ 11) = .pointer (some ⟨B, 0, none⟩) ∧ W3.heap.size ≤ B ∧ Two V1_ B (.bool false) (.slice none 0 0) 38 := hg (11, 4) (by simp)
    have n1_10_11 : σ 10 ≠ σ 11 := hd (10, 3) (by simp) (11, 4) (by simp) (by decide) rfl rfl
    clear hg hd
    simp only [Lex.full, Act.put, List.setIfInBounds_toArray, List.set_cons_zero, List.set_cons_succ]
    generalize σ 0 = s1_0 at *
    generalize σ 1 = s1_1 at *
    generalize σ 2 = s1_2 at *
    generalize σ 3 = s1_3 at *
    generalize σ 4 = s1_4 at *
    generalize σ 5 = s1_5 at *
    generalize σ 6 = s1_6 at *
    generalize σ 7 = s1_7 at *
    generalize σ 8 = s1_8 at *
    generalize σ 9 = s1_9 at *
    generalize σ 10 = s1_10 at *
    generalize σ 11 = s1_11 at *
    clear σ
    subst e0
    subst e1
    have h5x := e2
    subst e3
    subst e4
    have h5y := e5
    clear e6
    clear e7
    obtain ⟨p7, A7, n7, c7, rfl⟩ := e8.agg'
    have hZ := e8
    clear e8
    obtain ⟨p8, A8, n8, c8, rfl⟩ := e9
    obtain ⟨B1_10, rfl, l1_10, T10⟩ := e10
    have HT1_10 := Lib.hid T10
    clear T10
    obtain ⟨B1_11, rfl, l1_11, T11⟩ := e11
    have HT1_11 := Lib.hid T11
    clear T11
    replace n1_10_11 : B1_10 ≠ B1_11 := fun e => n1_10_11 (by rw [e])
    have HBm := Lib.hid (show Below w.heap.size w V1_ from HBW.out.drew.trans (hB.mono HBW.out.size))
    have HBb := Lib.hid (show Below W3.heap.size W3 V1_ from ⟨hB.os, hB.tape, hB.output, hB.size, hB.block⟩)
    have HSm := Lib.hid hS
    clear hB hS
    have l1_x := HF.out.lt
    have G1_x := Lib.hid HSm.out
    have lw1 := HBW.out.size
    clear HSm HBb HF HBW
    have Y1_z := Lib.hid hZ
    clear hZ
    refine Lex.lex_do rfl ?_
    have r0 := HT1_10.out.cell0
    have g0 := HT1_10.out.free 0
    have r1 := HT1_10.out.cell1
    have g1 := HT1_10.out.free 1
    obtain ⟨V1_s1, hV1⟩ : ∃ V1_s1, V1_s1 = ((V1_.setCell ⟨B1_10, 0, none⟩ (.bool p7.1)).setCell ⟨B1_10, 1, none⟩ (.slice A7 n7 c7)) := ⟨_, rfl⟩
    have HV1 := Lib.hid hV1
    clear hV1
    go_wp2_with fail
    rw [← HV1.out]
    clear r0 g0 r1 g1
    have G1_xs := Lib.hid (show Two V1_s1 w.heap.size (.int .i64 p) (.int .i64 q) 28 by rw [HV1.out]; exact ((G1_x.out.setOther ⟨B1_10, 0, none⟩ _ (by dsimp only; omega)).setOther ⟨B1_10, 1, none⟩ _ (by dsimp only; omega)))
    replace HT1_11 := Lib.hid (show Two V1_s1 _ _ _ _ by rw [HV1.out]; exact ((HT1_11.out.setOther ⟨B1_10, 0, none⟩ _ (by dsimp only; omega)).setOther ⟨B1_10, 1, none⟩ _ (by dsimp only; omega)))
    have G1_q := Lib.hid (show Two V1_s1 B1_10 (.bool p7.1) (.slice A7 n7 c7) 38 by rw [HV1.out]; exact (HT1_10.out.set0 _).set1 _)
    have Y1_zs := Lib.hid (show IsR V1_s1 (.agg #[.bool p7.1, .slice A7 n7 c7]) z 6 by rw [HV1.out]; exact IsR.storedT Y1_z.out HT1_10.out)
    clear Y1_z
    have HB1_1 := Lib.hid (show Below w.heap.size w V1_s1 by rw [HV1.out]; exact ((HBm.out.setCell (by dsimp only; omega) _).setCell (by dsimp only; omega) _))
    clear HV1 HT1_10 HBm G1_x
    refine Lex.lexQ_normal (fun _ => G1_xs.out) ?_
    refine Lex.lex_do rfl ?_
    have r0 := HT1_11.out.cell0
    have g0 := HT1_11.out.free 0
    have r1 := HT1_11.out.cell1
    have g1 := HT1_11.out.free 1
    obtain ⟨V1_s2, hV1⟩ : ∃ V1_s2, V1_s2 = ((V1_s1.setCell ⟨B1_11, 0, none⟩ (.bool p8.1)).setCell ⟨B1_11, 1, none⟩ (.slice A8 n8 c8)) := ⟨_, rfl⟩
    have HV1 := Lib.hid hV1
    clear hV1
    go_wp2_with fail
    rw [← HV1.out]
    clear r0 g0 r1 g1
    have G1_xss := Lib.hid (show Two V1_s2 w.heap.size (.int .i64 p) (.int .i64 q) 28 by rw [HV1.out]; exact ((G1_xs.out.setOther ⟨B1_11, 0, none⟩ _ (by dsimp only; omega)).setOther ⟨B1_11, 1, none⟩ _ (by dsimp only; omega)))
    have G1_qs := Lib.hid (show Two V1_s2 B1_10 (.bool p7.1) (.slice A7 n7 c7) 38 by rw [HV1.out]; exact ((G1_q.out.setOther ⟨B1_11, 0, none⟩ _ (by dsimp only; omega)).setOther ⟨B1_11, 1, none⟩ _ (by dsimp only; omega)))
    have G1_r := Lib.hid (show Two V1_s2 B1_11 (.bool p8.1) (.slice A8 n8 c8) 38 by rw [HV1.out]; exact (HT1_11.out.set0 _).set1 _)
    have Y1_zss := Lib.hid (show IsR V1_s2 (.agg #[.bool p7.1, .slice A7 n7 c7]) z 6 by rw [HV1.out]; exact IsR.storedT Y1_zs.out HT1_11.out)
    clear Y1_zs
    have HB1_2 := Lib.hid (show Below w.heap.size w V1_s2 by rw [HV1.out]; exact ((HB1_1.out.setCell (by dsimp only; omega) _).setCell (by dsimp only; omega) _))
    clear HV1 HT1_11 HB1_1 G1_xs G1_q
    refine Lex.lexQ_normal (fun _ => G1_xss.out) ?_
    refine Lex.lex_nil ?_
    have k0_0 := G1_qs.out.cell0
    have k0_1 := G1_qs.out.cell1
    have hb20 := Below.refl V1_s2.heap.size V1_s2
    have hw20 := HB1_2.out
    have cc := cs V1_s2 hw20 _ (Y1_zss.out.below hb20)
    go_wp2_with fail
    refine cc.mono ?_
    rintro e V21 ⟨v21, rfl, hm21, hn21⟩
    have hb21 := hb20.trans (hn21.mono hb20.size)
    have hw21 := hw20.trans (hn21.mono hw20.size)
    subst hm21
    clear cc hb20 hw20 hn21
    clear k0_0 k0_1
    have k0_0 := (G1_qs.out.below hb21 G1_qs.out.lt).cell0
    have k0_1 := (G1_qs.out.below hb21 G1_qs.out.lt).cell1
    have HE := Lib.hid hw21
    clear hb21 hw21
    go_wp2
    go_ret
    exact ⟨rfl, HE.out⟩

end Go.Proofs.YtklngjjokbhfpaaGreat

namespace Go.Proofs.YtklngjjokbhfpaaGreat
open Go.RowKit

theorem St.round {p q D bn bd : Int} (h : NB p q D bn bd) : St p q D 0 bn bd := ⟨fun _ => h, fun e => by omega, fun e => by omega⟩
theorem St.next {p q D bn bd : Int} (h : St p q D 2 bn bd) : NB p q (D + 1) bn bd := h.2.2 rfl
theorem sgn_lt {x : Int} : sgn x < 0 ↔ x < 0 := by
  rcases sgn_cases' x with ⟨h, e⟩ | ⟨h, e⟩ | ⟨h, e⟩ <;> rw [e] <;> omega
theorem St.pos {p q D bn bd : Int} {k : Nat} (h : St p q D k bn bd) (hk : k ≤ 2) (hD : 1 ≤ D) : 1 ≤ bd ∧ bd ≤ D := by
  rcases (show k = 0 ∨ k = 1 ∨ k = 2 by omega) with rfl | rfl | rfl
  · have := h.1 rfl
    exact ⟨this.d1, by rcases this.dm with g | g <;> omega⟩
  · have := h.2.1 rfl
    by_cases g : D ≤ q
    · have := this.1 g
      exact ⟨this.d1, by rcases this.dm with g | g <;> omega⟩
    · have := this.2 (by omega)
      exact ⟨this.d1, by rcases this.dm with g | g <;> omega⟩
  · have := h.2.2 rfl
    exact ⟨this.d1, by rcases this.dm with g | g <;> omega⟩
def RetNear0 (p q most : Int) (w : World) (e : Ending) (w' : World) : Prop := ∃ n d : Int, e = .returned (.agg #[.int .i64 n, .int .i64 d]) ∧ Near p q most n d ∧ Below w.heap.size w w'

set_option maxRecDepth 100000 in
set_option maxHeartbeats 6400000 in
theorem rnearest_any {p q most : Int} (w : World) (h : FOk (p, q)) (hm : 1 ≤ most) (hm2 : most ≤ 60) :
    Calls Tryz.prog 26 #[.agg #[.int .i64 p, .int .i64 q], .int .i64 most] w (RetNear0 p q most w) := by
  have q0 : 0 < q := by have := h.1; simp at this; omega
  have ip := i64_lowf h
  have hfl := quot_bd (p := p) (q := q) (d := 1) h.2.2.1 (by omega) (by have := h.1; simp at this; omega)
  rw [Int.mul_one] at hfl
  have cf : ∀ W (_ : Below w.heap.size w W), Calls Tryz.prog 70 #[.agg #[.int .i64 p, .int .i64 q]] W (RetW (.int .i64 (p / q)) W) := fun W _ => by
    have : smallV (p / q) = .tuple #[.int .i64 (p / q), .bool ((true, ()) : Bool × Unit).1] := by unfold smallV; rw [if_pos hfl]
    exact (rfloor_any W ip.1 ip.2 q0 this).mono fun e w' h => RetW.of h
  have co : ∀ W (_ : Below w.heap.size w W), Calls Tryz.prog 22 #[.agg #[.int .i64 p, .int .i64 q]] W (RetRQ p q 5 W) := fun W _ => of_any' p q W ip.1 ip.2
  have HC := Lib.hid (show ∀ D : Int, 1 ≤ D → D ≤ 60 → ∃ n0 : Int, -4611686018427387904 ≤ n0 ∧ n0 ≤ 4611686018427387904 ∧ (D ≤ q → n0 = p * D / q) ∧
      (∀ W (_ : Below w.heap.size w W), Calls Tryz.prog 54 #[.int .i64 D] W (RetRQ D 1 5 W)) ∧
      (∀ W (_ : Below w.heap.size w W) u v, IsRQ W u p q 5 → IsRQ W v D 1 5 → Calls Tryz.prog 41 #[u, v] W (RetRQ (p * D) (q * 1) 11 W)) ∧
      (∀ W (_ : Below w.heap.size w W) u, IsRQ W u (p * D) (q * 1) 11 → Calls Tryz.prog 71 #[u] W (RetW (.int .i64 n0) W)) from fun D d1 d2 => by
    obtain ⟨n0, b, e1, e2, e3, e4⟩ := smallV_form (p * D / (q * 1))
    refine ⟨n0, e2, e3, fun g => ?_, fun W _ => whole_any D W ⟨by omega, by omega⟩, fun W _ u v h1 h2 => rmulq_any h1 h2 (by omega) (by omega), fun W _ u h1 => (rround_n h1 (by omega) (by omega) e1).mono fun e w' h => RetW.of h⟩
    have := quot_bd (p := p) (q := q) (d := D) h.2.2.1 d1 g
    rw [Int.mul_one] at e4
    exact e4 this.1 this.2)
  have HO := Lib.hid (show ∀ n d : Int, I64 n → I64 d → ∀ W (_ : Below w.heap.size w W), Calls Tryz.prog 72 #[.agg #[.int .i64 n, .int .i64 d], .agg #[.int .i64 p, .int .i64 q]] W (RetRQ (dx p q n d) (d * q) 12 W) from fun n d h1 h2 W _ => roff_any n d p q W h1 h2 ip.1 ip.2)
  have HCQ := Lib.hid (show ∀ n d m k : Int, ∀ W (_ : Below w.heap.size w W) u v, IsRQ W u (dx p q n d) (d * q) 12 → IsRQ W v (dx p q m k) (k * q) 12 → Calls Tryz.prog 21 #[u, v] W (RetW (.int .i64 (sgn (dx p q n d * k - dx p q m k * d))) W) from fun n d m k W _ u v h1 h2 => by
    rw [← near_cmp q0]
    exact (rcmpq_any h1 h2 (by omega) (by omega)).mono fun e w' h => RetW.of h)
  have HN0 := Lib.hid (show NB p q 1 (p / q) 1 from NB.start)
  have HFL := Lib.hid hfl
  have HQ := Lib.hid q0
  have HM := Lib.hid hm
  clear h ip hfl q0
  obtain ⟨fl, hfl⟩ : ∃ fl, fl = p / q := ⟨_, rfl⟩
  rw [← hfl] at HN0 HFL cf
  clear hfl
  obtain ⟨W3, hW3⟩ : ∃ W3, W3 = ((w.alloc (.cells #[.int .i64 p, .int .i64 q] 28)).alloc (.cells #[.int .i64 0, .int .i64 0] 28)) := ⟨_, rfl⟩
  have hB : Below w.heap.size w W3 := by rw [hW3]; exact (((Below.refl _ _).alloc (Nat.le_refl _) _).alloc (by simp; try omega) _)
  have HBW := Lib.hid hB
  have HF := Lib.hid (show Two W3 (w.heap.size) (.int .i64 p) (.int .i64 q) 28 by rw [hW3]; exact (((Two.newAt _ _ _ _ _ (by simp))).alloc _))
  have HR := Lib.hid (show Two W3 (w.heap.size + 1) (.int .i64 0) (.int .i64 0) 28 by rw [hW3]; exact (Two.newAt _ _ _ _ _ (by simp)))
  clear hB
  go_enter Tryz.func26, Tryz.ntmps26
  go_upto_region 1 with fail
  rw [← hW3]
  clear hW3
  have k0_0 := HF.out.cell0
  have k0_1 := HF.out.cell1
  have hb10 := Below.refl W3.heap.size W3
  have hw10 := HBW.out
  have cc := cf W3 hw10
  go_wp2_with fail
  refine cc.mono ?_
  rintro e V11 ⟨v11, rfl, hm11, hn11⟩
  have hb11 := hb10.trans (hn11.mono hb10.size)
  have hw11 := hw10.trans (hn11.mono hw10.size)
  subst hm11
  clear cc hb10 hw10 hn11
  clear k0_0 k0_1
  have k0_0 := (HF.out.below hb11 HF.out.lt).cell0
  have k0_1 := (HF.out.below hb11 HF.out.lt).cell1
  obtain ⟨NB_, hNB⟩ : ∃ NB_, NB_ = V11.heap.size := ⟨_, rfl⟩
  obtain ⟨U2, hU⟩ : ∃ U2, U2 = V11.alloc (.cells #[.int .i64 fl, .int .i64 1] 28) := ⟨_, rfl⟩
  have HU := Lib.hid (show U2 = _ ∧ NB_ = _ from ⟨hU, hNB⟩)
  clear hU hNB
  go_upto_region 2 with fail
  clear k0_0 k0_1
  rw [← HU.out.2, ← HU.out.1]
  have hbU := hb11.alloc hb11.size (.cells #[.int .i64 fl, .int .i64 1] 28)
  have hwU := hw11.alloc hw11.size (.cells #[.int .i64 fl, .int .i64 1] 28)
  rw [← HU.out.1] at hbU hwU
  have F2_x := Lib.hid (HF.out.below hbU HF.out.lt)
  have F2_R := Lib.hid (HR.out.below hbU HR.out.lt)
  have O2_x := Lib.hid (show w.heap.size < NB_ by rw [HU.out.2]; exact (HF.out.below hb11 HF.out.lt).lt)
  have O2_R := Lib.hid (show (w.heap.size + 1) < NB_ by rw [HU.out.2]; exact (HR.out.below hb11 HR.out.lt).lt)
  have OW2 := Lib.hid (show w.heap.size ≤ NB_ by rw [HU.out.2]; exact hw11.size)
  have F2_b := Lib.hid (show Two U2 NB_ (.int .i64 fl) (.int .i64 1) 28 by rw [HU.out.1, HU.out.2]; exact Two.newAt _ _ _ _ _ rfl)
  have OV2 := Lib.hid (show Below V11.heap.size V11 U2 by rw [HU.out.1]; exact (Below.refl _ _).alloc (Nat.le_refl _) _)
  have OE2 := Lib.hid (show V11.heap.size ≤ NB_ by rw [HU.out.2]; exact Nat.le_refl _)
  have B2_ := Lib.hid hwU
  clear HU hbU hwU hb11 hw11 HF HR HBW
  clear cf
  have OX := Lib.hid O2_x.out
  have OR := Lib.hid O2_R.out
  have OW := Lib.hid OW2.out
  clear O2_x O2_R OW2
  go_wp2_with fail
  go_loopw [6] (fun d wr => ∃ D bn bd : Int, d = .int .i64 D ∧ 1 ≤ D ∧ D ≤ most + 1 ∧ NB p q D bn bd ∧ (-4611686018427387904 ≤ bn ∧ bn ≤ 4611686018427387905) ∧ Two wr w.heap.size (.int .i64 p) (.int .i64 q) 28 ∧ Two wr (w.heap.size + 1) (.int .i64 0) (.int .i64 0) 28 ∧ Two wr NB_ (.int .i64 bn) (.int .i64 bd) 28 ∧ Below w.heap.size w wr) (fun d _ => (most + 1 - intOf d).toNat)
  case atStart => exact ⟨1, fl, 1, rfl, by omega, by omega, HN0.out, ⟨by have := HFL.out; omega, by have := HFL.out; omega⟩, F2_x.out, F2_R.out, F2_b.out, B2_.out⟩
  case round =>
    clear F2_x F2_R F2_b B2_ HN0 HFL
    obtain ⟨D, bn, bd, rfl, d1, d2, hN, hbn, hX, hR, hb, hw⟩ := hrel
    have HX := Lib.hid hX
    have HR := Lib.hid hR
    have HBB := Lib.hid hb
    have HW := Lib.hid hw
    have HNB := Lib.hid hN
    have HBN := Lib.hid hbn
    clear hX hR hb hw hN hbn
    by_cases hlt : D ≤ most
    · obtain ⟨n0, e2, e3, e4, cw, cm, cr⟩ := HC.out D d1 (by omega)
      have HE4 := Lib.hid e4
      have HE23 := Lib.hid (And.intro e2 e3)
      clear e4 e2 e3
      go_upto_region 5 with fail
      have k0_0 := HX.out.cell0
      have k0_1 := HX.out.cell1
      have hb110 := Below.refl wr.heap.size wr
      have hw110 := HW.out
      have cc := co wr hw110
      go_wp2_with fail
      refine cc.mono ?_
      rintro e V111 ⟨v111, rfl, hm111, hn111⟩
      have hb111 := hb110.trans (hn111.mono hb110.size)
      have hw111 := hw110.trans (hn111.mono hw110.size)
      clear cc hb110 hw110 hn111
      clear k0_0 k0_1
      have k0_0 := (HX.out.below hb111 HX.out.lt).cell0
      have k0_1 := (HX.out.below hb111 HX.out.lt).cell1
      have cc := cw V111 hw111
      go_wp2_with fail
      refine cc.mono ?_
      rintro e V112 ⟨v112, rfl, hm112, hn112⟩
      have hb112 := hb111.trans (hn112.mono hb111.size)
      have hw112 := hw111.trans (hn112.mono hw111.size)
      have hm111 := hm111.below hn112
      clear cc hb111 hw111 hn112
      clear k0_0 k0_1
      have k0_0 := (HX.out.below hb112 HX.out.lt).cell0
      have k0_1 := (HX.out.below hb112 HX.out.lt).cell1
      have cc := cm V112 hw112 _ _ hm111 hm112
      go_wp2_with fail
      refine cc.mono ?_
      rintro e V113 ⟨v113, rfl, hm113, hn113⟩
      have hb113 := hb112.trans (hn113.mono hb112.size)
      have hw113 := hw112.trans (hn113.mono hw112.size)
      clear hm111 hm112
      clear cc hb112 hw112 hn113
      clear k0_0 k0_1
      have k0_0 := (HX.out.below hb113 HX.out.lt).cell0
      have k0_1 := (HX.out.below hb113 HX.out.lt).cell1
      have cc := cr V113 hw113 _ hm113
      go_wp2_with fail
      refine cc.mono ?_
      rintro e V114 ⟨v114, rfl, hm114, hn114⟩
      have hb114 := hb113.trans (hn114.mono hb113.size)
      have hw114 := hw113.trans (hn114.mono hw113.size)
      clear hm113
      subst hm114
      clear cc hb113 hw113 hn114
      clear k0_0 k0_1
      have k0_0 := (HX.out.below hb114 HX.out.lt).cell0
      have k0_1 := (HX.out.below hb114 HX.out.lt).cell1
      clear k0_0 k0_1
      have F12_x := Lib.hid (HX.out.below hb114 HX.out.lt)
      have F12_R := Lib.hid (HR.out.below hb114 HR.out.lt)
      have F12_b := Lib.hid (HBB.out.below hb114 HBB.out.lt)
      have B12_ := Lib.hid hw114
      clear hb114 hw114 HX HR HBB HW
      clear cw cm cr
      go_wp2_with fail
      go_loopw [8] (fun kk wx => ∃ (k : Nat) (bn bd : Int), k ≤ 2 ∧ kk = .int .i64 (k : Int) ∧ St p q D k bn bd ∧ (-4611686018427387904 ≤ bn ∧ bn ≤ 4611686018427387905) ∧ Two wx w.heap.size (.int .i64 p) (.int .i64 q) 28 ∧ Two wx (w.heap.size + 1) (.int .i64 0) (.int .i64 0) 28 ∧ Two wx NB_ (.int .i64 bn) (.int .i64 bd) 28 ∧ Below w.heap.size w wx) (fun kk _ => (2 - intOf kk).toNat)
      case atStart => exact ⟨0, bn, bd, by omega, rfl, St.round HNB.out, HBN.out, F12_x.out, F12_R.out, F12_b.out, B12_.out⟩
      case round =>
        clear F12_x F12_R F12_b B12_ HNB HBN
        obtain ⟨k, bn, bd, hk, rfl, hN, hbn, hX, hR, hb, hw⟩ := hrel
        obtain ⟨b1, b2⟩ := hN.pos hk d1
        have HX := Lib.hid hX
        have HR := Lib.hid hR
        have HBB := Lib.hid hb
        have HW := Lib.hid hw
        have HST := Lib.hid hN
        have HBN := Lib.hid hbn
        clear hX hR hb hw hN hbn
        by_cases hk2 : k < 2
        · obtain ⟨y, hy⟩ : ∃ y : Int, y = n0 + (k : Int) := ⟨_, rfl⟩
          have hy1 : -4611686018427387904 ≤ y ∧ y ≤ 4611686018427387905 := by have := HE23.out; omega
          have co1 := HO.out y D ⟨by omega, by omega⟩ ⟨by omega, by omega⟩
          have co2 := HO.out bn bd ⟨by have := HBN.out; omega, by have := HBN.out; omega⟩ ⟨by omega, by omega⟩
          have co3 := HCQ.out y D bn bd
          obtain ⟨sg, hsg⟩ : ∃ sg, sg = sgn (dx p q y D * bd - dx p q bn bd * D) := ⟨_, rfl⟩
          rw [← hsg] at co3
          have HSG := Lib.hid (show sg < 0 ↔ dx p q y D * bd < dx p q bn bd * D by rw [hsg, sgn_lt]; omega)
          have HY := Lib.hid hy
          have HY1 := Lib.hid hy1
          clear hsg hy hy1
          have u1 : n0 + (k : Int) = y := HY.out.symm
          obtain ⟨u2, u3⟩ : -9223372036854775808 ≤ y ∧ y ≤ 9223372036854775807 := by have := HY1.out; omega
          go_upto_region 9 with fail
          have hb0_ := Below.refl wr.heap.size wr
          have hw0_ := HW.out
          obtain ⟨N21, hNB⟩ : ∃ N21, N21 = wr.heap.size := ⟨_, rfl⟩
          obtain ⟨U21, hU⟩ : ∃ U21, U21 = wr.alloc (.cells #[.int .i64 y, .int .i64 D] 28) := ⟨_, rfl⟩
          have HU := Lib.hid (show U21 = _ ∧ N21 = _ from ⟨hU, hNB⟩)
          clear hU hNB
          go_upto_region 10 with fail
          clear u1 u2 u3
          rw [← HU.out.2, ← HU.out.1]
          have hbU := hb0_.alloc hb0_.size (.cells #[.int .i64 y, .int .i64 D] 28)
          have hwU := hw0_.alloc hw0_.size (.cells #[.int .i64 y, .int .i64 D] 28)
          rw [← HU.out.1] at hbU hwU
          have F21_x := Lib.hid (HX.out.below hbU HX.out.lt)
          have F21_R := Lib.hid (HR.out.below hbU HR.out.lt)
          have F21_b := Lib.hid (HBB.out.below hbU HBB.out.lt)
          have F21_y := Lib.hid (show Two U21 N21 (.int .i64 y) (.int .i64 D) 28 by rw [HU.out.1, HU.out.2]; exact Two.newAt _ _ _ _ _ rfl)
          have B21_ := Lib.hid hwU
          clear HU hbU hwU hb0_ hw0_ HX HR HBB HW
          refine Lex.wp_region_lex (fun w' => Two w' w.heap.size (.int .i64 p) (.int .i64 q) 28 ∧ Two w' NB_ (.int .i64 bn) (.int .i64 bd) 28 ∧ Two w' N21 (.int .i64 y) (.int .i64 D) 28) (fun _ => true)
            [(0, true), (1, true), (3, true), (4, true), (2, false), (5, false), (6, false), (7, false)]
            (by kernel_rfl) (by kernel_rfl) (by kernel_rfl) (by kernel_rfl) ⟨F21_x.out, F21_b.out, F21_y.out⟩ ?_
          have hb220 : Below U21.heap.size U21 U21.drew := ⟨rfl, rfl, rfl, Nat.le_refl _, fun _ _ => rfl⟩
          have hw220 : Below w.heap.size w U21.drew := ⟨B21_.out.os, B21_.out.tape, B21_.out.output, B21_.out.size, B21_.out.block⟩
          generalize hV0 : U21.drew = V220 at *
          clear hV0
          refine Lex.lex_take (v := ?_) rfl rfl (by rfl) (fun _ hS => ?_) ?_; rotate_left 1; (focus (have g0_0 := hS.1.cell0; have g0_1 := hS.1.cell1; have g1_0 := hS.2.1.cell0; have g1_1 := hS.2.1.cell1; have g2_0 := hS.2.2.cell0; have g2_1 := hS.2.2.cell1; clear hS; go_simp; with_reducible rfl)); simp only [List.setIfInBounds_toArray, List.set_cons_zero, List.set_cons_succ]
          refine Lex.lex_take (v := ?_) rfl rfl (by rfl) (fun _ hS => ?_) ?_; rotate_left 1; (focus (have g0_0 := hS.1.cell0; have g0_1 := hS.1.cell1; have g1_0 := hS.2.1.cell0; have g1_1 := hS.2.1.cell1; have g2_0 := hS.2.2.cell0; have g2_1 := hS.2.2.cell1; clear hS; go_simp; with_reducible rfl)); simp only [List.setIfInBounds_toArray, List.set_cons_zero, List.set_cons_succ]
          refine Lex.lex_take (v := ?_) rfl rfl (by rfl) (fun _ hS => ?_) ?_; rotate_left 1; (focus (have g0_0 := hS.1.cell0; have g0_1 := hS.1.cell1; have g1_0 := hS.2.1.cell0; have g1_1 := hS.2.1.cell1; have g2_0 := hS.2.2.cell0; have g2_1 := hS.2.2.cell1; clear hS; go_simp; with_reducible rfl)); simp only [List.setIfInBounds_toArray, List.set_cons_zero, List.set_cons_succ]
          refine Lex.lex_take (v := ?_) rfl rfl (by rfl) (fun _ hS => ?_) ?_; rotate_left 1; (focus (have g0_0 := hS.1.cell0; have g0_1 := hS.1.cell1; have g1_0 := hS.2.1.cell0; have g1_1 := hS.2.1.cell1; have g2_0 := hS.2.2.cell0; have g2_1 := hS.2.2.cell1; clear hS; go_simp; with_reducible rfl)); simp only [List.setIfInBounds_toArray, List.set_cons_zero, List.set_cons_succ]
          refine Lex.lex_do rfl ?_
          have cc := co1 V220 hw220
          go_wp2_with fail
          refine cc.mono ?_
          rintro e V221 ⟨v221, rfl, hm221, hn221⟩
          have hb221 := hb220.trans (hn221.mono hb220.size)
          have hw221 := hw220.trans (hn221.mono hw220.size)
          clear cc hb220 hw220 hn221
          go_wp2_with fail
          refine Lex.lexQ_normal (fun _ => ⟨F21_x.out.below hb221 F21_x.out.lt, F21_b.out.below hb221 F21_b.out.lt, F21_y.out.below hb221 F21_y.out.lt⟩) ?_
          refine Lex.lex_do rfl ?_
          have cc := co2 V221 hw221
          go_wp2_with fail
          refine cc.mono ?_
          rintro e V222 ⟨v222, rfl, hm222, hn222⟩
          have hb222 := hb221.trans (hn222.mono hb221.size)
          have hw222 := hw221.trans (hn222.mono hw221.size)
          have hm221 := hm221.below hn222
          clear cc hb221 hw221 hn222
          go_wp2_with fail
          refine Lex.lexQ_normal (fun _ => ⟨F21_x.out.below hb222 F21_x.out.lt, F21_b.out.below hb222 F21_b.out.lt, F21_y.out.below hb222 F21_y.out.lt⟩) ?_
          refine Lex.lex_do rfl ?_
          have cc := co3 V222 hw222 _ _ hm221 hm222
          go_wp2_with fail
          refine cc.mono ?_
          rintro e V223 ⟨v223, rfl, hm223, hn223⟩
          have hb223 := hb222.trans (hn223.mono hb222.size)
          have hw223 := hw222.trans (hn223.mono hw222.size)
          clear hm221 hm222
          subst hm223
          clear cc hb222 hw222 hn223
          go_wp2_with fail
          refine Lex.lexQ_normal (fun _ => ⟨F21_x.out.below hb223 F21_x.out.lt, F21_b.out.below hb223 F21_b.out.lt, F21_y.out.below hb223 F21_y.out.lt⟩) ?_
          refine Lex.lex_do rfl ?_
          go_wp2_with fail
          refine Lex.lexQ_normal (fun _ => ⟨F21_x.out.below hb223 F21_x.out.lt, F21_b.out.below hb223 F21_b.out.lt, F21_y.out.below hb223 F21_y.out.lt⟩) ?_
          refine Lex.lex_nil ?_
          have F23_x := Lib.hid (F21_x.out.below hb223 F21_x.out.lt)
          have F23_R := Lib.hid (F21_R.out.below hb223 F21_R.out.lt)
          have F23_b := Lib.hid (F21_b.out.below hb223 F21_b.out.lt)
          have F23_y := Lib.hid (F21_y.out.below hb223 F21_y.out.lt)
          have B23_ := Lib.hid hw223
          clear hb223 hw223 F21_x F21_R F21_b F21_y B21_
          by_cases hs : sg < 0
          · have r0 := F23_b.out.cell0
            have r1 := F23_b.out.cell1
            have g0 := F23_b.out.free 0
            have g1 := F23_b.out.free 1
            have y0 := F23_y.out.cell0
            have y1 := F23_y.out.cell1
            have hs' := decide_eq_true hs
            obtain ⟨V_s, hV1⟩ : ∃ V_s, V_s = (V223.setCell ⟨NB_, 0, none⟩ (.int .i64 y)).setCell ⟨NB_, 1, none⟩ (.int .i64 D) := ⟨_, rfl⟩
            have HV1 := Lib.hid hV1
            clear hV1
            go_wp2
            rw [← HV1.out]
            go_roundw
            case rel =>
              refine ⟨k + 1, y, D, by omega, by go_num, ?_, HY1.out, ?_, ?_, ?_, ?_⟩
              · rw [HY.out]
                exact HST.out.try' hk2 HQ.out d1 HE4.out (by rw [← HY.out]; exact HSG.out.1 hs)
              · rw [HV1.out]; exact (F23_x.out.setOther ⟨NB_, 0, none⟩ _ (by dsimp only; have := OX.out; omega)).setOther ⟨NB_, 1, none⟩ _ (by dsimp only; have := OX.out; omega)
              · rw [HV1.out]; exact (F23_R.out.setOther ⟨NB_, 0, none⟩ _ (by dsimp only; have := OR.out; omega)).setOther ⟨NB_, 1, none⟩ _ (by dsimp only; have := OR.out; omega)
              · rw [HV1.out]; exact (F23_b.out.set0 _).set1 _
              · rw [HV1.out]; exact (B23_.out.setCell (by dsimp only; exact OW.out) _).setCell (by dsimp only; exact OW.out) _
            case measure => simp [intOf]; omega
          · have hs' := decide_eq_false hs
            go_wp2
            go_roundw
            case rel => exact ⟨k + 1, bn, bd, by omega, by go_num, HST.out.keep' hk2 HQ.out d1 HE4.out (by rw [← HY.out]; exact fun g => hs (HSG.out.2 g)), HBN.out, F23_x.out, F23_R.out, F23_b.out, B23_.out⟩
            case measure => simp [intOf]; omega
        · obtain rfl : k = 2 := by omega
          go_wp2
          go_roundw
          case rel => exact ⟨D + 1, bn, bd, by go_num, by omega, by omega, HST.out.next, HBN.out, HX.out, HR.out, HBB.out, HW.out⟩
          case measure => simp [intOf]; omega
    · obtain rfl : D = most + 1 := by omega
      have k0 := HBB.out.cell0
      have k1 := HBB.out.cell1
      have r0 := HR.out.cell0
      have r1 := HR.out.cell1
      have g0 := HR.out.free 0
      have g1 := HR.out.free 1
      go_wp2
      refine bodyPost_ret (v := .agg #[.int .i64 bn, .int .i64 bd]) (by simp [results, Tryz.results26, go_sem, r0, r1, g0, g1]) rfl ⟨bn, bd, rfl, HNB.out.done HM.out, ?_⟩
      exact (HW.out.setCell (by dsimp only; omega) _).setCell (by dsimp only; omega) _

end Go.Proofs.YtklngjjokbhfpaaGreat

namespace Go.Proofs.YtklngjjokbhfpaaGreat
open Go.RowKit

set_option maxRecDepth 100000 in
set_option maxHeartbeats 3200000 in
theorem nears_bad_a (p q most : Int) (w : World) (hp : I64 p) (hq : I64 q) (h : ¬ FOk (p, q)) (g1 : most < 1) :
    Calls Tryz.prog 4 #[.agg #[.int .i64 p, .int .i64 q], .int .i64 most] w (RetV (.bool true) w) := by
  have f1 : decide (60 < most) = false := decide_eq_false (by omega)
  have f3 : decide (most < 1) = true := decide_eq_true g1
  have cn : ∀ W (_ : Below w.heap.size w W), Calls Tryz.prog 24 #[.agg #[.int .i64 p, .int .i64 q], .int .i64 most] W (RetW (.tuple #[.agg #[.int .i64 0, .int .i64 0], .int .i64 2]) W) := fun W _ => (nearest_bad p q most W hp hq h).mono fun e w' h => RetW.of h
  have cv1 := valid_y p q false (decide_eq_false h) (w := w)
  have ci := is_w 0 0 2 (w := w)
  have cl := lives_y (w := w)
  clear h hp hq 
  obtain ⟨W3, hW3⟩ : ∃ W3, W3 = (w.alloc (.cells #[.int .i64 p, .int .i64 q] 28)) := ⟨_, rfl⟩
  have hB : Below w.heap.size w W3 := by rw [hW3]; exact ((Below.refl _ _).alloc (Nat.le_refl _) _)
  have HBW := Lib.hid hB
  have HF := Lib.hid (show Two W3 (w.heap.size) (.int .i64 p) (.int .i64 q) 28 by rw [hW3]; exact (Two.newAt _ _ _ _ _ (by simp)))
  clear hB
  go_enter Tryz.func4, Tryz.ntmps4
  go_upto_region 1 with fail
  rw [← hW3]
  clear hW3
  have k0_0 := HF.out.cell0
  have k0_1 := HF.out.cell1
  have hb10 := Below.refl W3.heap.size W3
  have hw10 := HBW.out
  have cc := cn W3 hw10
  go_wp2_with fail
  refine cc.mono ?_
  rintro e V11 ⟨v11, rfl, hm11, hn11⟩
  have hb11 := hb10.trans (hn11.mono hb10.size)
  have hw11 := hw10.trans (hn11.mono hw10.size)
  subst hm11
  clear cc hb10 hw10 hn11
  clear k0_0 k0_1
  have k0_0 := (HF.out.below hb11 HF.out.lt).cell0
  have k0_1 := (HF.out.below hb11 HF.out.lt).cell1
  obtain ⟨N2, hNB⟩ : ∃ N2, N2 = V11.heap.size := ⟨_, rfl⟩
  obtain ⟨U2, hU⟩ : ∃ U2, U2 = V11.alloc (.cells #[.int .i64 0, .int .i64 0] 28) := ⟨_, rfl⟩
  have HU := Lib.hid (show U2 = _ ∧ N2 = _ from ⟨hU, hNB⟩)
  clear hU hNB
  go_upto_region 4 with fail
  clear k0_0 k0_1
  rw [← HU.out.2, ← HU.out.1]
  have hbU := hb11.alloc hb11.size (.cells #[.int .i64 0, .int .i64 0] 28)
  have hwU := hw11.alloc hw11.size (.cells #[.int .i64 0, .int .i64 0] 28)
  rw [← HU.out.1] at hbU hwU
  have F2_x := Lib.hid (HF.out.below hbU HF.out.lt)
  have F2_a := Lib.hid (show Two U2 N2 (.int .i64 0) (.int .i64 0) 28 by rw [HU.out.1, HU.out.2]; exact Two.newAt _ _ _ _ _ rfl)
  have B2_ := Lib.hid hwU
  clear HU hbU hwU hb11 hw11 HF HBW
  have k0_0 := F2_x.out.cell0
  have k0_1 := F2_x.out.cell1
  have hb30 := Below.refl U2.heap.size U2
  have hw30 := B2_.out
  have cc := cv1 U2 hw30
  go_wp2_with fail
  refine cc.mono ?_
  rintro e V31 ⟨v31, rfl, hm31, hn31⟩
  have hb31 := hb30.trans (hn31.mono hb30.size)
  have hw31 := hw30.trans (hn31.mono hw30.size)
  subst hm31
  clear cc hb30 hw30 hn31
  clear k0_0 k0_1
  have k0_0 := (F2_x.out.below hb31 F2_x.out.lt).cell0
  have k0_1 := (F2_x.out.below hb31 F2_x.out.lt).cell1
  clear k0_0 k0_1
  have F4_x := Lib.hid (F2_x.out.below hb31 F2_x.out.lt)
  have F4_a := Lib.hid (F2_a.out.below hb31 F2_a.out.lt)
  have B4_ := Lib.hid hw31
  clear hb31 hw31 F2_x F2_a B2_
  have k0_0 := F4_a.out.cell0
  have k0_1 := F4_a.out.cell1
  have hb50 := Below.refl V31.heap.size V31
  have hw50 := B4_.out
  have cc := ci V31 hw50
  go_wp2_with fail
  refine cc.mono ?_
  rintro e V51 ⟨v51, rfl, hm51, hn51⟩
  have hb51 := hb50.trans (hn51.mono hb50.size)
  have hw51 := hw50.trans (hn51.mono hw50.size)
  subst hm51
  clear cc hb50 hw50 hn51
  clear k0_0 k0_1
  have k0_0 := (F4_a.out.below hb51 F4_a.out.lt).cell0
  have k0_1 := (F4_a.out.below hb51 F4_a.out.lt).cell1
  have cc := cl V51 hw51
  go_wp2_with fail
  refine cc.mono ?_
  rintro e V52 ⟨v52, rfl, hm52, hn52⟩
  have hb52 := hb51.trans (hn52.mono hb51.size)
  have hw52 := hw51.trans (hn52.mono hw51.size)
  subst hm52
  clear cc hb51 hw51 hn52
  clear k0_0 k0_1
  have k0_0 := (F4_a.out.below hb52 F4_a.out.lt).cell0
  have k0_1 := (F4_a.out.below hb52 F4_a.out.lt).cell1
  have HE := Lib.hid hw52
  clear hb52 hw52
  go_wp2
  go_ret
  exact ⟨rfl, HE.out⟩

set_option maxRecDepth 100000 in
set_option maxHeartbeats 3200000 in
theorem nears_bad_b (p q most : Int) (w : World) (hp : I64 p) (hq : I64 q) (h : ¬ FOk (p, q)) (g1 : 1 ≤ most) (g2 : most ≤ 60) :
    Calls Tryz.prog 4 #[.agg #[.int .i64 p, .int .i64 q], .int .i64 most] w (RetV (.bool true) w) := by
  have f1 : decide (60 < most) = false := decide_eq_false (by omega)
  have f3 : decide (most < 1) = false := decide_eq_false (by omega)
  have f4 : decide (4611686018427387904 < most) = false := decide_eq_false (by omega)
  have cn : ∀ W (_ : Below w.heap.size w W), Calls Tryz.prog 24 #[.agg #[.int .i64 p, .int .i64 q], .int .i64 most] W (RetW (.tuple #[.agg #[.int .i64 0, .int .i64 0], .int .i64 2]) W) := fun W _ => (nearest_bad p q most W hp hq h).mono fun e w' h => RetW.of h
  have cv1 := valid_y p q false (decide_eq_false h) (w := w)
  have ci := is_w 0 0 2 (w := w)
  have cl := lives_y (w := w)
  clear h hp hq 
  obtain ⟨W3, hW3⟩ : ∃ W3, W3 = (w.alloc (.cells #[.int .i64 p, .int .i64 q] 28)) := ⟨_, rfl⟩
  have hB : Below w.heap.size w W3 := by rw [hW3]; exact ((Below.refl _ _).alloc (Nat.le_refl _) _)
  have HBW := Lib.hid hB
  have HF := Lib.hid (show Two W3 (w.heap.size) (.int .i64 p) (.int .i64 q) 28 by rw [hW3]; exact (Two.newAt _ _ _ _ _ (by simp)))
  clear hB
  go_enter Tryz.func4, Tryz.ntmps4
  go_upto_region 1 with fail
  rw [← hW3]
  clear hW3
  have k0_0 := HF.out.cell0
  have k0_1 := HF.out.cell1
  have hb10 := Below.refl W3.heap.size W3
  have hw10 := HBW.out
  have cc := cn W3 hw10
  go_wp2_with fail
  refine cc.mono ?_
  rintro e V11 ⟨v11, rfl, hm11, hn11⟩
  have hb11 := hb10.trans (hn11.mono hb10.size)
  have hw11 := hw10.trans (hn11.mono hw10.size)
  subst hm11
  clear cc hb10 hw10 hn11
  clear k0_0 k0_1
  have k0_0 := (HF.out.below hb11 HF.out.lt).cell0
  have k0_1 := (HF.out.below hb11 HF.out.lt).cell1
  obtain ⟨N2, hNB⟩ : ∃ N2, N2 = V11.heap.size := ⟨_, rfl⟩
  obtain ⟨U2, hU⟩ : ∃ U2, U2 = V11.alloc (.cells #[.int .i64 0, .int .i64 0] 28) := ⟨_, rfl⟩
  have HU := Lib.hid (show U2 = _ ∧ N2 = _ from ⟨hU, hNB⟩)
  clear hU hNB
  go_upto_region 4 with fail
  clear k0_0 k0_1
  rw [← HU.out.2, ← HU.out.1]
  have hbU := hb11.alloc hb11.size (.cells #[.int .i64 0, .int .i64 0] 28)
  have hwU := hw11.alloc hw11.size (.cells #[.int .i64 0, .int .i64 0] 28)
  rw [← HU.out.1] at hbU hwU
  have F2_x := Lib.hid (HF.out.below hbU HF.out.lt)
  have F2_a := Lib.hid (show Two U2 N2 (.int .i64 0) (.int .i64 0) 28 by rw [HU.out.1, HU.out.2]; exact Two.newAt _ _ _ _ _ rfl)
  have B2_ := Lib.hid hwU
  clear HU hbU hwU hb11 hw11 HF HBW
  have k0_0 := F2_x.out.cell0
  have k0_1 := F2_x.out.cell1
  have hb30 := Below.refl U2.heap.size U2
  have hw30 := B2_.out
  have cc := cv1 U2 hw30
  go_wp2_with fail
  refine cc.mono ?_
  rintro e V31 ⟨v31, rfl, hm31, hn31⟩
  have hb31 := hb30.trans (hn31.mono hb30.size)
  have hw31 := hw30.trans (hn31.mono hw30.size)
  subst hm31
  clear cc hb30 hw30 hn31
  clear k0_0 k0_1
  have k0_0 := (F2_x.out.below hb31 F2_x.out.lt).cell0
  have k0_1 := (F2_x.out.below hb31 F2_x.out.lt).cell1
  clear k0_0 k0_1
  have F4_x := Lib.hid (F2_x.out.below hb31 F2_x.out.lt)
  have F4_a := Lib.hid (F2_a.out.below hb31 F2_a.out.lt)
  have B4_ := Lib.hid hw31
  clear hb31 hw31 F2_x F2_a B2_
  have k0_0 := F4_a.out.cell0
  have k0_1 := F4_a.out.cell1
  have hb50 := Below.refl V31.heap.size V31
  have hw50 := B4_.out
  have cc := ci V31 hw50
  go_wp2_with fail
  refine cc.mono ?_
  rintro e V51 ⟨v51, rfl, hm51, hn51⟩
  have hb51 := hb50.trans (hn51.mono hb50.size)
  have hw51 := hw50.trans (hn51.mono hw50.size)
  subst hm51
  clear cc hb50 hw50 hn51
  clear k0_0 k0_1
  have k0_0 := (F4_a.out.below hb51 F4_a.out.lt).cell0
  have k0_1 := (F4_a.out.below hb51 F4_a.out.lt).cell1
  have cc := cl V51 hw51
  go_wp2_with fail
  refine cc.mono ?_
  rintro e V52 ⟨v52, rfl, hm52, hn52⟩
  have hb52 := hb51.trans (hn52.mono hb51.size)
  have hw52 := hw51.trans (hn52.mono hw51.size)
  subst hm52
  clear cc hb51 hw51 hn52
  clear k0_0 k0_1
  have k0_0 := (F4_a.out.below hb52 F4_a.out.lt).cell0
  have k0_1 := (F4_a.out.below hb52 F4_a.out.lt).cell1
  have HE := Lib.hid hw52
  clear hb52 hw52
  go_wp2
  go_ret
  exact ⟨rfl, HE.out⟩

set_option maxRecDepth 100000 in
set_option maxHeartbeats 3200000 in
theorem nears_bad_c (p q most : Int) (w : World) (hp : I64 p) (hq : I64 q) (h : ¬ FOk (p, q)) (g1 : 60 < most) (g2 : most ≤ 4611686018427387904) :
    Calls Tryz.prog 4 #[.agg #[.int .i64 p, .int .i64 q], .int .i64 most] w (RetV (.bool true) w) := by
  have f1 : decide (60 < most) = true := decide_eq_true g1
  have f2 : decide (most ≤ 4611686018427387904) = true := decide_eq_true g2
  obtain ⟨m0, hm0⟩ : ∃ m0, m0 = most.tmod 60 := ⟨_, rfl⟩
  have hm1 : 0 ≤ m0 ∧ m0 ≤ 59 := by rw [hm0, Int.tmod_eq_emod_of_nonneg (by omega)]; omega
  obtain ⟨m, hm⟩ : ∃ m, m = m0 + 1 := ⟨_, rfl⟩
  have u1 : most.tmod 60 = m0 := hm0.symm
  have u2 : m0 + 1 = m := hm.symm
  obtain ⟨u3, u4⟩ : -9223372036854775808 ≤ m ∧ m ≤ 9223372036854775807 := ⟨by omega, by omega⟩
  have hm2 : 1 ≤ m ∧ m ≤ 60 := ⟨by omega, by omega⟩
  clear hm0 hm1 hm
  have f3 : decide (m < 1) = false := decide_eq_false (by omega)
  have f4 : decide (4611686018427387904 < m) = false := decide_eq_false (by omega)
  have cn : ∀ W (_ : Below w.heap.size w W), Calls Tryz.prog 24 #[.agg #[.int .i64 p, .int .i64 q], .int .i64 m] W (RetW (.tuple #[.agg #[.int .i64 0, .int .i64 0], .int .i64 2]) W) := fun W _ => (nearest_bad p q m W hp hq h).mono fun e w' h => RetW.of h
  have cv1 := valid_y p q false (decide_eq_false h) (w := w)
  have ci := is_w 0 0 2 (w := w)
  have cl := lives_y (w := w)
  clear h hp hq hm2
  obtain ⟨W3, hW3⟩ : ∃ W3, W3 = (w.alloc (.cells #[.int .i64 p, .int .i64 q] 28)) := ⟨_, rfl⟩
  have hB : Below w.heap.size w W3 := by rw [hW3]; exact ((Below.refl _ _).alloc (Nat.le_refl _) _)
  have HBW := Lib.hid hB
  have HF := Lib.hid (show Two W3 (w.heap.size) (.int .i64 p) (.int .i64 q) 28 by rw [hW3]; exact (Two.newAt _ _ _ _ _ (by simp)))
  clear hB
  go_enter Tryz.func4, Tryz.ntmps4
  go_upto_region 1 with fail
  rw [← hW3]
  clear hW3
  have k0_0 := HF.out.cell0
  have k0_1 := HF.out.cell1
  have hb10 := Below.refl W3.heap.size W3
  have hw10 := HBW.out
  have cc := cn W3 hw10
  go_wp2_with fail
  refine cc.mono ?_
  rintro e V11 ⟨v11, rfl, hm11, hn11⟩
  have hb11 := hb10.trans (hn11.mono hb10.size)
  have hw11 := hw10.trans (hn11.mono hw10.size)
  subst hm11
  clear cc hb10 hw10 hn11
  clear k0_0 k0_1
  have k0_0 := (HF.out.below hb11 HF.out.lt).cell0
  have k0_1 := (HF.out.below hb11 HF.out.lt).cell1
  obtain ⟨N2, hNB⟩ : ∃ N2, N2 = V11.heap.size := ⟨_, rfl⟩
  obtain ⟨U2, hU⟩ : ∃ U2, U2 = V11.alloc (.cells #[.int .i64 0, .int .i64 0] 28) := ⟨_, rfl⟩
  have HU := Lib.hid (show U2 = _ ∧ N2 = _ from ⟨hU, hNB⟩)
  clear hU hNB
  go_upto_region 4 with fail
  clear k0_0 k0_1
  rw [← HU.out.2, ← HU.out.1]
  have hbU := hb11.alloc hb11.size (.cells #[.int .i64 0, .int .i64 0] 28)
  have hwU := hw11.alloc hw11.size (.cells #[.int .i64 0, .int .i64 0] 28)
  rw [← HU.out.1] at hbU hwU
  have F2_x := Lib.hid (HF.out.below hbU HF.out.lt)
  have F2_a := Lib.hid (show Two U2 N2 (.int .i64 0) (.int .i64 0) 28 by rw [HU.out.1, HU.out.2]; exact Two.newAt _ _ _ _ _ rfl)
  have B2_ := Lib.hid hwU
  clear HU hbU hwU hb11 hw11 HF HBW
  have k0_0 := F2_x.out.cell0
  have k0_1 := F2_x.out.cell1
  have hb30 := Below.refl U2.heap.size U2
  have hw30 := B2_.out
  have cc := cv1 U2 hw30
  go_wp2_with fail
  refine cc.mono ?_
  rintro e V31 ⟨v31, rfl, hm31, hn31⟩
  have hb31 := hb30.trans (hn31.mono hb30.size)
  have hw31 := hw30.trans (hn31.mono hw30.size)
  subst hm31
  clear cc hb30 hw30 hn31
  clear k0_0 k0_1
  have k0_0 := (F2_x.out.below hb31 F2_x.out.lt).cell0
  have k0_1 := (F2_x.out.below hb31 F2_x.out.lt).cell1
  clear k0_0 k0_1
  have F4_x := Lib.hid (F2_x.out.below hb31 F2_x.out.lt)
  have F4_a := Lib.hid (F2_a.out.below hb31 F2_a.out.lt)
  have B4_ := Lib.hid hw31
  clear hb31 hw31 F2_x F2_a B2_
  have k0_0 := F4_a.out.cell0
  have k0_1 := F4_a.out.cell1
  have hb50 := Below.refl V31.heap.size V31
  have hw50 := B4_.out
  have cc := ci V31 hw50
  go_wp2_with fail
  refine cc.mono ?_
  rintro e V51 ⟨v51, rfl, hm51, hn51⟩
  have hb51 := hb50.trans (hn51.mono hb50.size)
  have hw51 := hw50.trans (hn51.mono hw50.size)
  subst hm51
  clear cc hb50 hw50 hn51
  clear k0_0 k0_1
  have k0_0 := (F4_a.out.below hb51 F4_a.out.lt).cell0
  have k0_1 := (F4_a.out.below hb51 F4_a.out.lt).cell1
  have cc := cl V51 hw51
  go_wp2_with fail
  refine cc.mono ?_
  rintro e V52 ⟨v52, rfl, hm52, hn52⟩
  have hb52 := hb51.trans (hn52.mono hb51.size)
  have hw52 := hw51.trans (hn52.mono hw51.size)
  subst hm52
  clear cc hb51 hw51 hn52
  clear k0_0 k0_1
  have k0_0 := (F4_a.out.below hb52 F4_a.out.lt).cell0
  have k0_1 := (F4_a.out.below hb52 F4_a.out.lt).cell1
  have HE := Lib.hid hw52
  clear hb52 hw52
  go_wp2
  go_ret
  exact ⟨rfl, HE.out⟩

set_option maxRecDepth 100000 in
set_option maxHeartbeats 3200000 in
theorem nears_bad_d (p q most : Int) (w : World) (hp : I64 p) (hq : I64 q) (h : ¬ FOk (p, q)) (g1 : 4611686018427387904 < most) :
    Calls Tryz.prog 4 #[.agg #[.int .i64 p, .int .i64 q], .int .i64 most] w (RetV (.bool true) w) := by
  have f1 : decide (60 < most) = true := decide_eq_true (by omega)
  have f2 : decide (most ≤ 4611686018427387904) = false := decide_eq_false (by omega)
  have f3 : decide (most < 1) = false := decide_eq_false (by omega)
  have f4 : decide (4611686018427387904 < most) = true := decide_eq_true g1
  have cn : ∀ W (_ : Below w.heap.size w W), Calls Tryz.prog 24 #[.agg #[.int .i64 p, .int .i64 q], .int .i64 most] W (RetW (.tuple #[.agg #[.int .i64 0, .int .i64 0], .int .i64 2]) W) := fun W _ => (nearest_bad p q most W hp hq h).mono fun e w' h => RetW.of h
  have cv1 := valid_y p q false (decide_eq_false h) (w := w)
  have ci := is_w 0 0 2 (w := w)
  have cl := lives_y (w := w)
  clear h hp hq 
  obtain ⟨W3, hW3⟩ : ∃ W3, W3 = (w.alloc (.cells #[.int .i64 p, .int .i64 q] 28)) := ⟨_, rfl⟩
  have hB : Below w.heap.size w W3 := by rw [hW3]; exact ((Below.refl _ _).alloc (Nat.le_refl _) _)
  have HBW := Lib.hid hB
  have HF := Lib.hid (show Two W3 (w.heap.size) (.int .i64 p) (.int .i64 q) 28 by rw [hW3]; exact (Two.newAt _ _ _ _ _ (by simp)))
  clear hB
  go_enter Tryz.func4, Tryz.ntmps4
  go_upto_region 1 with fail
  rw [← hW3]
  clear hW3
  have k0_0 := HF.out.cell0
  have k0_1 := HF.out.cell1
  have hb10 := Below.refl W3.heap.size W3
  have hw10 := HBW.out
  have cc := cn W3 hw10
  go_wp2_with fail
  refine cc.mono ?_
  rintro e V11 ⟨v11, rfl, hm11, hn11⟩
  have hb11 := hb10.trans (hn11.mono hb10.size)
  have hw11 := hw10.trans (hn11.mono hw10.size)
  subst hm11
  clear cc hb10 hw10 hn11
  clear k0_0 k0_1
  have k0_0 := (HF.out.below hb11 HF.out.lt).cell0
  have k0_1 := (HF.out.below hb11 HF.out.lt).cell1
  obtain ⟨N2, hNB⟩ : ∃ N2, N2 = V11.heap.size := ⟨_, rfl⟩
  obtain ⟨U2, hU⟩ : ∃ U2, U2 = V11.alloc (.cells #[.int .i64 0, .int .i64 0] 28) := ⟨_, rfl⟩
  have HU := Lib.hid (show U2 = _ ∧ N2 = _ from ⟨hU, hNB⟩)
  clear hU hNB
  go_upto_region 4 with fail
  clear k0_0 k0_1
  rw [← HU.out.2, ← HU.out.1]
  have hbU := hb11.alloc hb11.size (.cells #[.int .i64 0, .int .i64 0] 28)
  have hwU := hw11.alloc hw11.size (.cells #[.int .i64 0, .int .i64 0] 28)
  rw [← HU.out.1] at hbU hwU
  have F2_x := Lib.hid (HF.out.below hbU HF.out.lt)
  have F2_a := Lib.hid (show Two U2 N2 (.int .i64 0) (.int .i64 0) 28 by rw [HU.out.1, HU.out.2]; exact Two.newAt _ _ _ _ _ rfl)
  have B2_ := Lib.hid hwU
  clear HU hbU hwU hb11 hw11 HF HBW
  have k0_0 := F2_x.out.cell0
  have k0_1 := F2_x.out.cell1
  have hb30 := Below.refl U2.heap.size U2
  have hw30 := B2_.out
  have cc := cv1 U2 hw30
  go_wp2_with fail
  refine cc.mono ?_
  rintro e V31 ⟨v31, rfl, hm31, hn31⟩
  have hb31 := hb30.trans (hn31.mono hb30.size)
  have hw31 := hw30.trans (hn31.mono hw30.size)
  subst hm31
  clear cc hb30 hw30 hn31
  clear k0_0 k0_1
  have k0_0 := (F2_x.out.below hb31 F2_x.out.lt).cell0
  have k0_1 := (F2_x.out.below hb31 F2_x.out.lt).cell1
  clear k0_0 k0_1
  have F4_x := Lib.hid (F2_x.out.below hb31 F2_x.out.lt)
  have F4_a := Lib.hid (F2_a.out.below hb31 F2_a.out.lt)
  have B4_ := Lib.hid hw31
  clear hb31 hw31 F2_x F2_a B2_
  have k0_0 := F4_a.out.cell0
  have k0_1 := F4_a.out.cell1
  have hb50 := Below.refl V31.heap.size V31
  have hw50 := B4_.out
  have cc := ci V31 hw50
  go_wp2_with fail
  refine cc.mono ?_
  rintro e V51 ⟨v51, rfl, hm51, hn51⟩
  have hb51 := hb50.trans (hn51.mono hb50.size)
  have hw51 := hw50.trans (hn51.mono hw50.size)
  subst hm51
  clear cc hb50 hw50 hn51
  clear k0_0 k0_1
  have k0_0 := (F4_a.out.below hb51 F4_a.out.lt).cell0
  have k0_1 := (F4_a.out.below hb51 F4_a.out.lt).cell1
  have cc := cl V51 hw51
  go_wp2_with fail
  refine cc.mono ?_
  rintro e V52 ⟨v52, rfl, hm52, hn52⟩
  have hb52 := hb51.trans (hn52.mono hb51.size)
  have hw52 := hw51.trans (hn52.mono hw51.size)
  subst hm52
  clear cc hb51 hw51 hn52
  clear k0_0 k0_1
  have k0_0 := (F4_a.out.below hb52 F4_a.out.lt).cell0
  have k0_1 := (F4_a.out.below hb52 F4_a.out.lt).cell1
  have HE := Lib.hid hw52
  clear hb52 hw52
  go_wp2
  go_ret
  exact ⟨rfl, HE.out⟩

set_option maxRecDepth 100000 in
set_option maxHeartbeats 3200000 in
theorem nears_good_a (p q most : Int) (w : World) (h : FOk (p, q)) (g1 : most < 1) :
    Calls Tryz.prog 4 #[.agg #[.int .i64 p, .int .i64 q], .int .i64 most] w (RetV (.bool true) w) := by
  have f1 : decide (60 < most) = false := decide_eq_false (by omega)
  have f3 : decide (most < 1) = true := decide_eq_true g1
  have cn : ∀ W (_ : Below w.heap.size w W), Calls Tryz.prog 24 #[.agg #[.int .i64 p, .int .i64 q], .int .i64 most] W (RetW (.tuple #[.agg #[.int .i64 0, .int .i64 0], .int .i64 1]) W) := fun W _ => (nearest_arg p q most W h (by omega)).mono fun e w' h => RetW.of h
  have cv1 := valid_y p q true (decide_eq_true h) (w := w)
  have ci := is_w 0 0 1 (w := w)
  have cl := lives_y (w := w)
  clear h 
  obtain ⟨W3, hW3⟩ : ∃ W3, W3 = (w.alloc (.cells #[.int .i64 p, .int .i64 q] 28)) := ⟨_, rfl⟩
  have hB : Below w.heap.size w W3 := by rw [hW3]; exact ((Below.refl _ _).alloc (Nat.le_refl _) _)
  have HBW := Lib.hid hB
  have HF := Lib.hid (show Two W3 (w.heap.size) (.int .i64 p) (.int .i64 q) 28 by rw [hW3]; exact (Two.newAt _ _ _ _ _ (by simp)))
  clear hB
  go_enter Tryz.func4, Tryz.ntmps4
  go_upto_region 1 with fail
  rw [← hW3]
  clear hW3
  have k0_0 := HF.out.cell0
  have k0_1 := HF.out.cell1
  have hb10 := Below.refl W3.heap.size W3
  have hw10 := HBW.out
  have cc := cn W3 hw10
  go_wp2_with fail
  refine cc.mono ?_
  rintro e V11 ⟨v11, rfl, hm11, hn11⟩
  have hb11 := hb10.trans (hn11.mono hb10.size)
  have hw11 := hw10.trans (hn11.mono hw10.size)
  subst hm11
  clear cc hb10 hw10 hn11
  clear k0_0 k0_1
  have k0_0 := (HF.out.below hb11 HF.out.lt).cell0
  have k0_1 := (HF.out.below hb11 HF.out.lt).cell1
  obtain ⟨N2, hNB⟩ : ∃ N2, N2 = V11.heap.size := ⟨_, rfl⟩
  obtain ⟨U2, hU⟩ : ∃ U2, U2 = V11.alloc (.cells #[.int .i64 0, .int .i64 0] 28) := ⟨_, rfl⟩
  have HU := Lib.hid (show U2 = _ ∧ N2 = _ from ⟨hU, hNB⟩)
  clear hU hNB
  go_upto_region 4 with fail
  clear k0_0 k0_1
  rw [← HU.out.2, ← HU.out.1]
  have hbU := hb11.alloc hb11.size (.cells #[.int .i64 0, .int .i64 0] 28)
  have hwU := hw11.alloc hw11.size (.cells #[.int .i64 0, .int .i64 0] 28)
  rw [← HU.out.1] at hbU hwU
  have F2_x := Lib.hid (HF.out.below hbU HF.out.lt)
  have F2_a := Lib.hid (show Two U2 N2 (.int .i64 0) (.int .i64 0) 28 by rw [HU.out.1, HU.out.2]; exact Two.newAt _ _ _ _ _ rfl)
  have B2_ := Lib.hid hwU
  clear HU hbU hwU hb11 hw11 HF HBW
  have k0_0 := F2_x.out.cell0
  have k0_1 := F2_x.out.cell1
  have hb30 := Below.refl U2.heap.size U2
  have hw30 := B2_.out
  have cc := cv1 U2 hw30
  go_wp2_with fail
  refine cc.mono ?_
  rintro e V31 ⟨v31, rfl, hm31, hn31⟩
  have hb31 := hb30.trans (hn31.mono hb30.size)
  have hw31 := hw30.trans (hn31.mono hw30.size)
  subst hm31
  clear cc hb30 hw30 hn31
  clear k0_0 k0_1
  have k0_0 := (F2_x.out.below hb31 F2_x.out.lt).cell0
  have k0_1 := (F2_x.out.below hb31 F2_x.out.lt).cell1
  clear k0_0 k0_1
  have F4_x := Lib.hid (F2_x.out.below hb31 F2_x.out.lt)
  have F4_a := Lib.hid (F2_a.out.below hb31 F2_a.out.lt)
  have B4_ := Lib.hid hw31
  clear hb31 hw31 F2_x F2_a B2_
  have k0_0 := F4_a.out.cell0
  have k0_1 := F4_a.out.cell1
  have hb50 := Below.refl V31.heap.size V31
  have hw50 := B4_.out
  have cc := ci V31 hw50
  go_wp2_with fail
  refine cc.mono ?_
  rintro e V51 ⟨v51, rfl, hm51, hn51⟩
  have hb51 := hb50.trans (hn51.mono hb50.size)
  have hw51 := hw50.trans (hn51.mono hw50.size)
  subst hm51
  clear cc hb50 hw50 hn51
  clear k0_0 k0_1
  have k0_0 := (F4_a.out.below hb51 F4_a.out.lt).cell0
  have k0_1 := (F4_a.out.below hb51 F4_a.out.lt).cell1
  have cc := cl V51 hw51
  go_wp2_with fail
  refine cc.mono ?_
  rintro e V52 ⟨v52, rfl, hm52, hn52⟩
  have hb52 := hb51.trans (hn52.mono hb51.size)
  have hw52 := hw51.trans (hn52.mono hw51.size)
  subst hm52
  clear cc hb51 hw51 hn52
  clear k0_0 k0_1
  have k0_0 := (F4_a.out.below hb52 F4_a.out.lt).cell0
  have k0_1 := (F4_a.out.below hb52 F4_a.out.lt).cell1
  have HE := Lib.hid hw52
  clear hb52 hw52
  go_wp2
  go_ret
  exact ⟨rfl, HE.out⟩

set_option maxRecDepth 100000 in
set_option maxHeartbeats 3200000 in
theorem nears_good_b (p q most : Int) (w : World) (h : FOk (p, q)) (g1 : 1 ≤ most) (g2 : most ≤ 60) :
    Calls Tryz.prog 4 #[.agg #[.int .i64 p, .int .i64 q], .int .i64 most] w (RetV (.bool true) w) := by
  have f1 : decide (60 < most) = false := decide_eq_false (by omega)
  have f3 : decide (most < 1) = false := decide_eq_false (by omega)
  have f4 : decide (4611686018427387904 < most) = false := decide_eq_false (by omega)
  have cn : ∀ W (_ : Below w.heap.size w W), Calls Tryz.prog 24 #[.agg #[.int .i64 p, .int .i64 q], .int .i64 most] W (RetNear p q most W) := fun W _ => nearest_ok p q most W h g1 (by omega)
  have HCR := Lib.hid (show ∀ n d : Int, Near p q most n d → ∀ W (_ : Below w.heap.size w W), Calls Tryz.prog 26 #[.agg #[.int .i64 p, .int .i64 q], .int .i64 most] W (RetW (.agg #[.int .i64 n, .int .i64 d]) W) from fun n d hN W _ => (rnearest_any W h g1 g2).mono fun e w' ⟨n', d', h1, h2, h3⟩ => by
    obtain ⟨rfl, rfl⟩ := Near.unique h2 hN
    exact RetW.of ⟨h1, h3⟩)
  have cv1 := valid_y p q true (decide_eq_true h) (w := w)
  have cl := lives_y (w := w)
  clear h
  obtain ⟨W3, hW3⟩ : ∃ W3, W3 = (w.alloc (.cells #[.int .i64 p, .int .i64 q] 28)) := ⟨_, rfl⟩
  have hB : Below w.heap.size w W3 := by rw [hW3]; exact ((Below.refl _ _).alloc (Nat.le_refl _) _)
  have HBW := Lib.hid hB
  have HF := Lib.hid (show Two W3 (w.heap.size) (.int .i64 p) (.int .i64 q) 28 by rw [hW3]; exact (Two.newAt _ _ _ _ _ (by simp)))
  clear hB
  go_enter Tryz.func4, Tryz.ntmps4
  go_upto_region 1 with fail
  rw [← hW3]
  clear hW3
  have k0_0 := HF.out.cell0
  have k0_1 := HF.out.cell1
  have cc := cn W3 HBW.out
  go_wp2_with fail
  refine cc.mono ?_
  rintro e V1 ⟨n, d, rfl, hN, hn1, hn⟩
  have ci := is_w n d 0 (w := w)
  have cr := HCR.out n d hN
  have hwn := HBW.out.trans (hn.mono HBW.out.size)
  clear cc cn hN hn1 HCR
  obtain ⟨N1, hNB⟩ : ∃ N1, N1 = V1.heap.size := ⟨_, rfl⟩
  obtain ⟨U1, hU⟩ : ∃ U1, U1 = V1.alloc (.cells #[.int .i64 n, .int .i64 d] 28) := ⟨_, rfl⟩
  have HU := Lib.hid (show U1 = _ ∧ N1 = _ from ⟨hU, hNB⟩)
  clear hU hNB
  go_upto_region 4 with fail
  clear k0_0 k0_1
  rw [← HU.out.2, ← HU.out.1]
  have hbU := hn.alloc hn.size (.cells #[.int .i64 n, .int .i64 d] 28)
  have hwU := hwn.alloc hwn.size (.cells #[.int .i64 n, .int .i64 d] 28)
  rw [← HU.out.1] at hbU hwU
  have F1_x := Lib.hid (HF.out.below hbU HF.out.lt)
  have F1_a := Lib.hid (show Two U1 N1 (.int .i64 n) (.int .i64 d) 28 by rw [HU.out.1, HU.out.2]; exact Two.newAt _ _ _ _ _ rfl)
  have B1_ := Lib.hid hwU
  clear HU hbU hwU hn hwn HF HBW
  have k0_0 := F1_x.out.cell0
  have k0_1 := F1_x.out.cell1
  have hb20 := Below.refl U1.heap.size U1
  have hw20 := B1_.out
  have cc := cv1 U1 hw20
  go_wp2_with fail
  refine cc.mono ?_
  rintro e V21 ⟨v21, rfl, hm21, hn21⟩
  have hb21 := hb20.trans (hn21.mono hb20.size)
  have hw21 := hw20.trans (hn21.mono hw20.size)
  subst hm21
  clear cc hb20 hw20 hn21
  clear k0_0 k0_1
  have k0_0 := (F1_x.out.below hb21 F1_x.out.lt).cell0
  have k0_1 := (F1_x.out.below hb21 F1_x.out.lt).cell1
  clear k0_0 k0_1
  have F3_x := Lib.hid (F1_x.out.below hb21 F1_x.out.lt)
  have F3_a := Lib.hid (F1_a.out.below hb21 F1_a.out.lt)
  have B3_ := Lib.hid hw21
  clear hb21 hw21 F1_x F1_a B1_
  go_upto_region 8 with fail
  refine Lex.wp_region_lex (fun w' => Two w' w.heap.size (.int .i64 p) (.int .i64 q) 28 ∧ Two w' N1 (.int .i64 n) (.int .i64 d) 28) (fun _ => true)
    [(0, true), (1, true), (2, true), (3, true), (4, false), (5, false), (6, true), (7, false), (8, true), (9, false)]
    (by kernel_rfl) (by kernel_rfl) (by kernel_rfl) (by kernel_rfl) ⟨F3_x.out, F3_a.out⟩ ?_
  have hb40 : Below V21.heap.size V21 V21.drew := ⟨rfl, rfl, rfl, Nat.le_refl _, fun _ _ => rfl⟩
  have hw40 : Below w.heap.size w V21.drew := ⟨B3_.out.os, B3_.out.tape, B3_.out.output, B3_.out.size, B3_.out.block⟩
  generalize hV0 : V21.drew = V40 at *
  clear hV0
  refine Lex.lex_take (v := ?_) rfl rfl (by rfl) (fun _ hS => ?_) ?_; rotate_left 1; (focus (have g0_0 := hS.1.cell0; have g0_1 := hS.1.cell1; have g1_0 := hS.2.cell0; have g1_1 := hS.2.cell1; clear hS; go_simp; with_reducible rfl)); simp only [List.setIfInBounds_toArray, List.set_cons_zero, List.set_cons_succ]
  refine Lex.lex_take (v := ?_) rfl rfl (by rfl) (fun _ hS => ?_) ?_; rotate_left 1; (focus (have g0_0 := hS.1.cell0; have g0_1 := hS.1.cell1; have g1_0 := hS.2.cell0; have g1_1 := hS.2.cell1; clear hS; go_simp; with_reducible rfl)); simp only [List.setIfInBounds_toArray, List.set_cons_zero, List.set_cons_succ]
  refine Lex.lex_take (v := ?_) rfl rfl (by rfl) (fun _ hS => ?_) ?_; rotate_left 1; (focus (have g0_0 := hS.1.cell0; have g0_1 := hS.1.cell1; have g1_0 := hS.2.cell0; have g1_1 := hS.2.cell1; clear hS; go_simp; with_reducible rfl)); simp only [List.setIfInBounds_toArray, List.set_cons_zero, List.set_cons_succ]
  refine Lex.lex_take (v := ?_) rfl rfl (by rfl) (fun _ hS => ?_) ?_; rotate_left 1; (focus (have g0_0 := hS.1.cell0; have g0_1 := hS.1.cell1; have g1_0 := hS.2.cell0; have g1_1 := hS.2.cell1; clear hS; go_simp; with_reducible rfl)); simp only [List.setIfInBounds_toArray, List.set_cons_zero, List.set_cons_succ]
  refine Lex.lex_do rfl ?_
  have cc := cr V40 hw40
  go_wp2_with fail
  refine cc.mono ?_
  rintro e V41 ⟨v41, rfl, hm41, hn41⟩
  have hb41 := hb40.trans (hn41.mono hb40.size)
  have hw41 := hw40.trans (hn41.mono hw40.size)
  subst hm41
  clear cc hb40 hw40 hn41
  go_wp2_with fail
  refine Lex.lexQ_normal (fun _ => ⟨F3_x.out.below hb41 F3_x.out.lt, F3_a.out.below hb41 F3_a.out.lt⟩) ?_
  refine Lex.lex_do rfl ?_
  have cc := ci V41 hw41
  go_wp2_with fail
  refine cc.mono ?_
  rintro e V42 ⟨v42, rfl, hm42, hn42⟩
  have hb42 := hb41.trans (hn42.mono hb41.size)
  have hw42 := hw41.trans (hn42.mono hw41.size)
  subst hm42
  clear cc hb41 hw41 hn42
  go_wp2_with fail
  refine Lex.lexQ_normal (fun _ => ⟨F3_x.out.below hb42 F3_x.out.lt, F3_a.out.below hb42 F3_a.out.lt⟩) ?_
  refine Lex.lex_take (v := ?_) rfl rfl (by rfl) (fun _ hS => ?_) ?_; rotate_left 1; (focus (have g0_0 := hS.1.cell0; have g0_1 := hS.1.cell1; have g1_0 := hS.2.cell0; have g1_1 := hS.2.cell1; clear hS; go_simp; with_reducible rfl)); simp only [List.setIfInBounds_toArray, List.set_cons_zero, List.set_cons_succ]
  refine Lex.lex_do rfl ?_
  have cc := cl V42 hw42
  go_wp2_with fail
  refine cc.mono ?_
  rintro e V43 ⟨v43, rfl, hm43, hn43⟩
  have hb43 := hb42.trans (hn43.mono hb42.size)
  have hw43 := hw42.trans (hn43.mono hw42.size)
  subst hm43
  clear cc hb42 hw42 hn43
  go_wp2_with fail
  refine Lex.lexQ_normal (fun _ => ⟨F3_x.out.below hb43 F3_x.out.lt, F3_a.out.below hb43 F3_a.out.lt⟩) ?_
  refine Lex.lex_take (v := ?_) rfl rfl (by rfl) (fun _ hS => ?_) ?_; rotate_left 1; (focus (have g0_0 := hS.1.cell0; have g0_1 := hS.1.cell1; have g1_0 := hS.2.cell0; have g1_1 := hS.2.cell1; clear hS; go_simp; with_reducible rfl)); simp only [List.setIfInBounds_toArray, List.set_cons_zero, List.set_cons_succ]
  refine Lex.lex_do rfl ?_
  go_wp2_with fail
  refine Lex.lexQ_normal (fun _ => ⟨F3_x.out.below hb43 F3_x.out.lt, F3_a.out.below hb43 F3_a.out.lt⟩) ?_
  refine Lex.lex_nil ?_
  have HE := Lib.hid hw43
  clear hb43 hw43
  go_wp2
  go_ret
  exact ⟨rfl, HE.out⟩

set_option maxRecDepth 100000 in
set_option maxHeartbeats 3200000 in
theorem nears_good_c (p q most : Int) (w : World) (h : FOk (p, q)) (g1 : 60 < most) (g2 : most ≤ 4611686018427387904) :
    Calls Tryz.prog 4 #[.agg #[.int .i64 p, .int .i64 q], .int .i64 most] w (RetV (.bool true) w) := by
  have f1 : decide (60 < most) = true := decide_eq_true g1
  have f2 : decide (most ≤ 4611686018427387904) = true := decide_eq_true g2
  obtain ⟨m0, hm0⟩ : ∃ m0, m0 = most.tmod 60 := ⟨_, rfl⟩
  have hm1 : 0 ≤ m0 ∧ m0 ≤ 59 := by rw [hm0, Int.tmod_eq_emod_of_nonneg (by omega)]; omega
  obtain ⟨m, hm⟩ : ∃ m, m = m0 + 1 := ⟨_, rfl⟩
  have u1 : most.tmod 60 = m0 := hm0.symm
  have u2 : m0 + 1 = m := hm.symm
  obtain ⟨u3, u4⟩ : -9223372036854775808 ≤ m ∧ m ≤ 9223372036854775807 := ⟨by omega, by omega⟩
  have hm2 : 1 ≤ m ∧ m ≤ 60 := ⟨by omega, by omega⟩
  clear hm0 hm1 hm
  have f3 : decide (m < 1) = false := decide_eq_false (by omega)
  have f4 : decide (4611686018427387904 < m) = false := decide_eq_false (by omega)
  have cn : ∀ W (_ : Below w.heap.size w W), Calls Tryz.prog 24 #[.agg #[.int .i64 p, .int .i64 q], .int .i64 m] W (RetNear p q m W) := fun W _ => nearest_ok p q m W h hm2.1 (by omega)
  have HCR := Lib.hid (show ∀ n d : Int, Near p q m n d → ∀ W (_ : Below w.heap.size w W), Calls Tryz.prog 26 #[.agg #[.int .i64 p, .int .i64 q], .int .i64 m] W (RetW (.agg #[.int .i64 n, .int .i64 d]) W) from fun n d hN W _ => (rnearest_any W h hm2.1 hm2.2).mono fun e w' ⟨n', d', h1, h2, h3⟩ => by
    obtain ⟨rfl, rfl⟩ := Near.unique h2 hN
    exact RetW.of ⟨h1, h3⟩)
  have cv1 := valid_y p q true (decide_eq_true h) (w := w)
  have cl := lives_y (w := w)
  clear h hm2
  obtain ⟨W3, hW3⟩ : ∃ W3, W3 = (w.alloc (.cells #[.int .i64 p, .int .i64 q] 28)) := ⟨_, rfl⟩
  have hB : Below w.heap.size w W3 := by rw [hW3]; exact ((Below.refl _ _).alloc (Nat.le_refl _) _)
  have HBW := Lib.hid hB
  have HF := Lib.hid (show Two W3 (w.heap.size) (.int .i64 p) (.int .i64 q) 28 by rw [hW3]; exact (Two.newAt _ _ _ _ _ (by simp)))
  clear hB
  go_enter Tryz.func4, Tryz.ntmps4
  go_upto_region 1 with fail
  rw [← hW3]
  clear hW3
  have k0_0 := HF.out.cell0
  have k0_1 := HF.out.cell1
  have cc := cn W3 HBW.out
  go_wp2_with fail
  refine cc.mono ?_
  rintro e V1 ⟨n, d, rfl, hN, hn1, hn⟩
  have ci := is_w n d 0 (w := w)
  have cr := HCR.out n d hN
  have hwn := HBW.out.trans (hn.mono HBW.out.size)
  clear cc cn hN hn1 HCR
  obtain ⟨N1, hNB⟩ : ∃ N1, N1 = V1.heap.size := ⟨_, rfl⟩
  obtain ⟨U1, hU⟩ : ∃ U1, U1 = V1.alloc (.cells #[.int .i64 n, .int .i64 d] 28) := ⟨_, rfl⟩
  have HU := Lib.hid (show U1 = _ ∧ N1 = _ from ⟨hU, hNB⟩)
  clear hU hNB
  go_upto_region 4 with fail
  clear k0_0 k0_1
  rw [← HU.out.2, ← HU.out.1]
  have hbU := hn.alloc hn.size (.cells #[.int .i64 n, .int .i64 d] 28)
  have hwU := hwn.alloc hwn.size (.cells #[.int .i64 n, .int .i64 d] 28)
  rw [← HU.out.1] at hbU hwU
  have F1_x := Lib.hid (HF.out.below hbU HF.out.lt)
  have F1_a := Lib.hid (show Two U1 N1 (.int .i64 n) (.int .i64 d) 28 by rw [HU.out.1, HU.out.2]; exact Two.newAt _ _ _ _ _ rfl)
  have B1_ := Lib.hid hwU
  clear HU hbU hwU hn hwn HF HBW
  have k0_0 := F1_x.out.cell0
  have k0_1 := F1_x.out.cell1
  have hb20 := Below.refl U1.heap.size U1
  have hw20 := B1_.out
  have cc := cv1 U1 hw20
  go_wp2_with fail
  refine cc.mono ?_
  rintro e V21 ⟨v21, rfl, hm21, hn21⟩
  have hb21 := hb20.trans (hn21.mono hb20.size)
  have hw21 := hw20.trans (hn21.mono hw20.size)
  subst hm21
  clear cc hb20 hw20 hn21
  clear k0_0 k0_1
  have k0_0 := (F1_x.out.below hb21 F1_x.out.lt).cell0
  have k0_1 := (F1_x.out.below hb21 F1_x.out.lt).cell1
  clear k0_0 k0_1
  have F3_x := Lib.hid (F1_x.out.below hb21 F1_x.out.lt)
  have F3_a := Lib.hid (F1_a.out.below hb21 F1_a.out.lt)
  have B3_ := Lib.hid hw21
  clear hb21 hw21 F1_x F1_a B1_
  go_upto_region 8 with fail
  refine Lex.wp_region_lex (fun w' => Two w' w.heap.size (.int .i64 p) (.int .i64 q) 28 ∧ Two w' N1 (.int .i64 n) (.int .i64 d) 28) (fun _ => true)
    [(0, true), (1, true), (2, true), (3, true), (4, false), (5, false), (6, true), (7, false), (8, true), (9, false)]
    (by kernel_rfl) (by kernel_rfl) (by kernel_rfl) (by kernel_rfl) ⟨F3_x.out, F3_a.out⟩ ?_
  have hb40 : Below V21.heap.size V21 V21.drew := ⟨rfl, rfl, rfl, Nat.le_refl _, fun _ _ => rfl⟩
  have hw40 : Below w.heap.size w V21.drew := ⟨B3_.out.os, B3_.out.tape, B3_.out.output, B3_.out.size, B3_.out.block⟩
  generalize hV0 : V21.drew = V40 at *
  clear hV0
  refine Lex.lex_take (v := ?_) rfl rfl (by rfl) (fun _ hS => ?_) ?_; rotate_left 1; (focus (have g0_0 := hS.1.cell0; have g0_1 := hS.1.cell1; have g1_0 := hS.2.cell0; have g1_1 := hS.2.cell1; clear hS; go_simp; with_reducible rfl)); simp only [List.setIfInBounds_toArray, List.set_cons_zero, List.set_cons_succ]
  refine Lex.lex_take (v := ?_) rfl rfl (by rfl) (fun _ hS => ?_) ?_; rotate_left 1; (focus (have g0_0 := hS.1.cell0; have g0_1 := hS.1.cell1; have g1_0 := hS.2.cell0; have g1_1 := hS.2.cell1; clear hS; go_simp; with_reducible rfl)); simp only [List.setIfInBounds_toArray, List.set_cons_zero, List.set_cons_succ]
  refine Lex.lex_take (v := ?_) rfl rfl (by rfl) (fun _ hS => ?_) ?_; rotate_left 1; (focus (have g0_0 := hS.1.cell0; have g0_1 := hS.1.cell1; have g1_0 := hS.2.cell0; have g1_1 := hS.2.cell1; clear hS; go_simp; with_reducible rfl)); simp only [List.setIfInBounds_toArray, List.set_cons_zero, List.set_cons_succ]
  refine Lex.lex_take (v := ?_) rfl rfl (by rfl) (fun _ hS => ?_) ?_; rotate_left 1; (focus (have g0_0 := hS.1.cell0; have g0_1 := hS.1.cell1; have g1_0 := hS.2.cell0; have g1_1 := hS.2.cell1; clear hS; go_simp; with_reducible rfl)); simp only [List.setIfInBounds_toArray, List.set_cons_zero, List.set_cons_succ]
  refine Lex.lex_do rfl ?_
  have cc := cr V40 hw40
  go_wp2_with fail
  refine cc.mono ?_
  rintro e V41 ⟨v41, rfl, hm41, hn41⟩
  have hb41 := hb40.trans (hn41.mono hb40.size)
  have hw41 := hw40.trans (hn41.mono hw40.size)
  subst hm41
  clear cc hb40 hw40 hn41
  go_wp2_with fail
  refine Lex.lexQ_normal (fun _ => ⟨F3_x.out.below hb41 F3_x.out.lt, F3_a.out.below hb41 F3_a.out.lt⟩) ?_
  refine Lex.lex_do rfl ?_
  have cc := ci V41 hw41
  go_wp2_with fail
  refine cc.mono ?_
  rintro e V42 ⟨v42, rfl, hm42, hn42⟩
  have hb42 := hb41.trans (hn42.mono hb41.size)
  have hw42 := hw41.trans (hn42.mono hw41.size)
  subst hm42
  clear cc hb41 hw41 hn42
  go_wp2_with fail
  refine Lex.lexQ_normal (fun _ => ⟨F3_x.out.below hb42 F3_x.out.lt, F3_a.out.below hb42 F3_a.out.lt⟩) ?_
  refine Lex.lex_take (v := ?_) rfl rfl (by rfl) (fun _ hS => ?_) ?_; rotate_left 1; (focus (have g0_0 := hS.1.cell0; have g0_1 := hS.1.cell1; have g1_0 := hS.2.cell0; have g1_1 := hS.2.cell1; clear hS; go_simp; with_reducible rfl)); simp only [List.setIfInBounds_toArray, List.set_cons_zero, List.set_cons_succ]
  refine Lex.lex_do rfl ?_
  have cc := cl V42 hw42
  go_wp2_with fail
  refine cc.mono ?_
  rintro e V43 ⟨v43, rfl, hm43, hn43⟩
  have hb43 := hb42.trans (hn43.mono hb42.size)
  have hw43 := hw42.trans (hn43.mono hw42.size)
  subst hm43
  clear cc hb42 hw42 hn43
  go_wp2_with fail
  refine Lex.lexQ_normal (fun _ => ⟨F3_x.out.below hb43 F3_x.out.lt, F3_a.out.below hb43 F3_a.out.lt⟩) ?_
  refine Lex.lex_take (v := ?_) rfl rfl (by rfl) (fun _ hS => ?_) ?_; rotate_left 1; (focus (have g0_0 := hS.1.cell0; have g0_1 := hS.1.cell1; have g1_0 := hS.2.cell0; have g1_1 := hS.2.cell1; clear hS; go_simp; with_reducible rfl)); simp only [List.setIfInBounds_toArray, List.set_cons_zero, List.set_cons_succ]
  refine Lex.lex_do rfl ?_
  go_wp2_with fail
  refine Lex.lexQ_normal (fun _ => ⟨F3_x.out.below hb43 F3_x.out.lt, F3_a.out.below hb43 F3_a.out.lt⟩) ?_
  refine Lex.lex_nil ?_
  have HE := Lib.hid hw43
  clear hb43 hw43
  go_wp2
  go_ret
  exact ⟨rfl, HE.out⟩

set_option maxRecDepth 100000 in
set_option maxHeartbeats 3200000 in
theorem nears_good_d (p q most : Int) (w : World) (h : FOk (p, q)) (g1 : 4611686018427387904 < most) :
    Calls Tryz.prog 4 #[.agg #[.int .i64 p, .int .i64 q], .int .i64 most] w (RetV (.bool true) w) := by
  have f1 : decide (60 < most) = true := decide_eq_true (by omega)
  have f2 : decide (most ≤ 4611686018427387904) = false := decide_eq_false (by omega)
  have f3 : decide (most < 1) = false := decide_eq_false (by omega)
  have f4 : decide (4611686018427387904 < most) = true := decide_eq_true g1
  have cn : ∀ W (_ : Below w.heap.size w W), Calls Tryz.prog 24 #[.agg #[.int .i64 p, .int .i64 q], .int .i64 most] W (RetW (.tuple #[.agg #[.int .i64 0, .int .i64 0], .int .i64 1]) W) := fun W _ => (nearest_arg p q most W h (by omega)).mono fun e w' h => RetW.of h
  have cv1 := valid_y p q true (decide_eq_true h) (w := w)
  have ci := is_w 0 0 1 (w := w)
  have cl := lives_y (w := w)
  clear h 
  obtain ⟨W3, hW3⟩ : ∃ W3, W3 = (w.alloc (.cells #[.int .i64 p, .int .i64 q] 28)) := ⟨_, rfl⟩
  have hB : Below w.heap.size w W3 := by rw [hW3]; exact ((Below.refl _ _).alloc (Nat.le_refl _) _)
  have HBW := Lib.hid hB
  have HF := Lib.hid (show Two W3 (w.heap.size) (.int .i64 p) (.int .i64 q) 28 by rw [hW3]; exact (Two.newAt _ _ _ _ _ (by simp)))
  clear hB
  go_enter Tryz.func4, Tryz.ntmps4
  go_upto_region 1 with fail
  rw [← hW3]
  clear hW3
  have k0_0 := HF.out.cell0
  have k0_1 := HF.out.cell1
  have hb10 := Below.refl W3.heap.size W3
  have hw10 := HBW.out
  have cc := cn W3 hw10
  go_wp2_with fail
  refine cc.mono ?_
  rintro e V11 ⟨v11, rfl, hm11, hn11⟩
  have hb11 := hb10.trans (hn11.mono hb10.size)
  have hw11 := hw10.trans (hn11.mono hw10.size)
  subst hm11
  clear cc hb10 hw10 hn11
  clear k0_0 k0_1
  have k0_0 := (HF.out.below hb11 HF.out.lt).cell0
  have k0_1 := (HF.out.below hb11 HF.out.lt).cell1
  obtain ⟨N2, hNB⟩ : ∃ N2, N2 = V11.heap.size := ⟨_, rfl⟩
  obtain ⟨U2, hU⟩ : ∃ U2, U2 = V11.alloc (.cells #[.int .i64 0, .int .i64 0] 28) := ⟨_, rfl⟩
  have HU := Lib.hid (show U2 = _ ∧ N2 = _ from ⟨hU, hNB⟩)
  clear hU hNB
  go_upto_region 4 with fail
  clear k0_0 k0_1
  rw [← HU.out.2, ← HU.out.1]
  have hbU := hb11.alloc hb11.size (.cells #[.int .i64 0, .int .i64 0] 28)
  have hwU := hw11.alloc hw11.size (.cells #[.int .i64 0, .int .i64 0] 28)
  rw [← HU.out.1] at hbU hwU
  have F2_x := Lib.hid (HF.out.below hbU HF.out.lt)
  have F2_a := Lib.hid (show Two U2 N2 (.int .i64 0) (.int .i64 0) 28 by rw [HU.out.1, HU.out.2]; exact Two.newAt _ _ _ _ _ rfl)
  have B2_ := Lib.hid hwU
  clear HU hbU hwU hb11 hw11 HF HBW
  have k0_0 := F2_x.out.cell0
  have k0_1 := F2_x.out.cell1
  have hb30 := Below.refl U2.heap.size U2
  have hw30 := B2_.out
  have cc := cv1 U2 hw30
  go_wp2_with fail
  refine cc.mono ?_
  rintro e V31 ⟨v31, rfl, hm31, hn31⟩
  have hb31 := hb30.trans (hn31.mono hb30.size)
  have hw31 := hw30.trans (hn31.mono hw30.size)
  subst hm31
  clear cc hb30 hw30 hn31
  clear k0_0 k0_1
  have k0_0 := (F2_x.out.below hb31 F2_x.out.lt).cell0
  have k0_1 := (F2_x.out.below hb31 F2_x.out.lt).cell1
  clear k0_0 k0_1
  have F4_x := Lib.hid (F2_x.out.below hb31 F2_x.out.lt)
  have F4_a := Lib.hid (F2_a.out.below hb31 F2_a.out.lt)
  have B4_ := Lib.hid hw31
  clear hb31 hw31 F2_x F2_a B2_
  have k0_0 := F4_a.out.cell0
  have k0_1 := F4_a.out.cell1
  have hb50 := Below.refl V31.heap.size V31
  have hw50 := B4_.out
  have cc := ci V31 hw50
  go_wp2_with fail
  refine cc.mono ?_
  rintro e V51 ⟨v51, rfl, hm51, hn51⟩
  have hb51 := hb50.trans (hn51.mono hb50.size)
  have hw51 := hw50.trans (hn51.mono hw50.size)
  subst hm51
  clear cc hb50 hw50 hn51
  clear k0_0 k0_1
  have k0_0 := (F4_a.out.below hb51 F4_a.out.lt).cell0
  have k0_1 := (F4_a.out.below hb51 F4_a.out.lt).cell1
  have cc := cl V51 hw51
  go_wp2_with fail
  refine cc.mono ?_
  rintro e V52 ⟨v52, rfl, hm52, hn52⟩
  have hb52 := hb51.trans (hn52.mono hb51.size)
  have hw52 := hw51.trans (hn52.mono hw51.size)
  subst hm52
  clear cc hb51 hw51 hn52
  clear k0_0 k0_1
  have k0_0 := (F4_a.out.below hb52 F4_a.out.lt).cell0
  have k0_1 := (F4_a.out.below hb52 F4_a.out.lt).cell1
  have HE := Lib.hid hw52
  clear hb52 hw52
  go_wp2
  go_ret
  exact ⟨rfl, HE.out⟩

theorem nearests_all (p q most : Int) (w : World) (hp : I64 p) (hq : I64 q) :
    Calls Tryz.prog 4 #[.agg #[.int .i64 p, .int .i64 q], .int .i64 most] w (RetV (.bool true) w) := by
  rcases (show most < 1 ∨ (1 ≤ most ∧ most ≤ 60) ∨ (60 < most ∧ most ≤ 4611686018427387904) ∨ 4611686018427387904 < most by omega) with g | g | g | g
  · by_cases h : FOk (p, q)
    · exact nears_good_a p q most w h g
    · exact nears_bad_a p q most w hp hq h g
  · by_cases h : FOk (p, q)
    · exact nears_good_b p q most w h g.1 g.2
    · exact nears_bad_b p q most w hp hq h g.1 g.2
  · by_cases h : FOk (p, q)
    · exact nears_good_c p q most w h g.1 g.2
    · exact nears_bad_c p q most w hp hq h g.1 g.2
  · by_cases h : FOk (p, q)
    · exact nears_good_d p q most w h g
    · exact nears_bad_d p q most w hp hq h g

end Go.Proofs.YtklngjjokbhfpaaGreat
