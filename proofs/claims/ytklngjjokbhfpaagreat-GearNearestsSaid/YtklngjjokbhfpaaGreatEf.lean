/- gear.Nearest (printed by genef.py). -/
import Derived.Test.YtklngjjokbhfpaaGreatPkEd
import Derived.Test.YtklngjjokbhfpaaGreatPkP
import Derived.Deep.LoopGhost
namespace Go.Proofs.YtklngjjokbhfpaaGreat
open Go.RowKit

/-- valid of one fraction in a new row. -/
theorem valid_one {p q : Int} (hp : I64 p) (hq : I64 q) (b : Bool) (hb : decide (FOk (p, q)) = b) (W : World) :
    Calls Tryz.prog 58 #[.slice (some ⟨W.heap.size, 0, none⟩) 1 1] (W.alloc (.cells #[.int .i64 p, .int .i64 q] 28)) (RetW (.bool b) W) := by
  have hI : I64s [(p, q)] := fun x hx => by simp at hx; subst hx; exact ⟨hp, hq⟩
  have ev : decide (∀ x ∈ [(p, q)], FOk x) = decide (FOk (p, q)) := by simp
  subst hb
  rw [← ev]
  have hba : Below W.heap.size W (W.alloc (.cells #[.int .i64 p, .int .i64 q] 28)) := (Below.refl _ _).alloc (Nat.le_refl _) _
  refine (valid_any _ 1 1 [(p, q)] _ (.inr ⟨_, 0, rfl, by simp, fun k hk => ?_⟩) rfl (by omega) hI).mono fun e w' h => ⟨_, h.1, rfl, hba.trans (h.2.mono hba.size)⟩
  match k, hk with
  | 0, _ => exact ⟨by simp [go_sem], by simp [go_sem]⟩

theorem i64_lowf {x : Int × Int} (h : FOk x) : I64 x.1 ∧ I64 x.2 := by
  obtain ⟨h1, h2, h3, _⟩ := h
  exact ⟨⟨by omega, by omega⟩, ⟨by omega, by omega⟩⟩
theorem sgn_cases' (x : Int) : (x < 0 ∧ sgn x = -1) ∨ (x = 0 ∧ sgn x = 0) ∨ (0 < x ∧ sgn x = 1) := by
  unfold sgn
  rcases Int.lt_trichotomy x 0 with h | h | h
  · left; exact ⟨h, by rw [if_pos h]⟩
  · right; left; subst h; exact ⟨rfl, rfl⟩
  · right; right; exact ⟨h, by rw [if_neg (by omega), if_neg (by omega)]⟩
theorem sgn_mul_pos (x : Int) {k : Int} (hk : 0 < k) : sgn (x * k) = sgn x := by
  rcases sgn_cases' x with ⟨h, e⟩ | ⟨h, e⟩ | ⟨h, e⟩ <;> rcases sgn_cases' (x * k) with ⟨h2, e2⟩ | ⟨h2, e2⟩ | ⟨h2, e2⟩ <;> rw [e, e2] <;> exfalso
  · have := Int.mul_neg_of_neg_of_pos h hk; omega
  · have := Int.mul_neg_of_neg_of_pos h hk; omega
  · subst h; simp at h2
  · subst h; simp at h2
  · have := Int.mul_pos h hk; omega
  · have := Int.mul_pos h hk; omega

section
variable {f q most an ad bn bd e u v : Int}
theorem NF.shift (_h : NF f q most an ad bn bd e u v) (w : Int) : (an + w * ad) * q - (f + w * q) * ad = an * q - f * ad ∧ (bn + w * bd) * q - (f + w * q) * bd = bn * q - f * bd := ⟨by grind, by grind⟩
/-- What nearer picks is the nearest. -/
theorem NF.pick (h : NF f q most an ad bn bd e u v) (w : Int) : Near (f + w * q) q most (nearR (f + w * q) q (an + w * ad) ad (bn + w * bd) bd).1 (nearR (f + w * q) q (an + w * ad) ad (bn + w * bd) bd).2 := by
  obtain ⟨s1, s2⟩ := h.shift w
  have q0 : 0 < q := by
    have := h.xq
    have h1 := Int.mul_pos (show 0 < ad by have := h.ad1; omega) h.u0
    have h2 := Int.mul_pos (show 0 < bd by have := h.bd1; omega) h.v0
    omega
  have es : nearS (f + w * q) q (an + w * ad) ad (bn + w * bd) bd = sgn ((v * bd - u * ad) * q) := by
    unfold nearS
    rw [s1, s2, h.absA, h.absB, show v * (bd * q) - u * (ad * q) = (v * bd - u * ad) * q by grind]
  have hs := sgn_mul_pos (v * bd - u * ad) q0
  unfold nearR
  rw [es, hs]
  have hx := sgn_cases' (v * bd - u * ad)
  by_cases c : sgn (v * bd - u * ad) < 0 ∨ sgn (v * bd - u * ad) = 0 ∧ ad < bd ∨ sgn (v * bd - u * ad) = 0 ∧ ad = bd ∧ an + w * ad < bn + w * bd
  · rw [if_pos c]
    refine Near.shift (h.near ?_) w
    rcases c with c | ⟨c, c2⟩ | ⟨c, c2, c3⟩
    · left; omega
    · right; exact ⟨by omega, .inl c2⟩
    · right; refine ⟨by omega, .inr ⟨c2, ?_⟩⟩; subst c2; omega
  · rw [if_neg c]
    refine Near.shift (h.swap.near ?_) w
    by_cases c0 : sgn (v * bd - u * ad) = 0
    · right
      refine ⟨by omega, ?_⟩
      by_cases c1 : ad = bd
      · right; refine ⟨c1.symm, ?_⟩; subst c1; omega
      · left; omega
    · left; omega
/-- Its size. -/
theorem near_size {p n d w : Int} (hq : most < q) (hp : p = f + w * q) (hl : Nat.gcd p.natAbs q.natAbs = 1) (hm : 1 ≤ most) (h : NF f q most an ad bn bd e u v) (hn : (n, d) = (an + w * ad, ad) ∨ (n, d) = (bn + w * bd, bd)) : n.natAbs ≤ p.natAbs := by
  obtain ⟨s1, s2⟩ := h.shift w
  have p0 : p ≠ 0 := by
    rintro rfl
    simp at hl
    omega
  have ux : u ≤ q ∧ v ≤ q := by
    have := h.xq
    have h1 := Int.mul_le_mul_of_nonneg_right h.ad1 (show 0 ≤ u by have := h.u0; omega)
    have h2 := Int.mul_le_mul_of_nonneg_right h.bd1 (show 0 ≤ v by have := h.v0; omega)
    have := h.u0; have := h.v0
    omega
  have a1 := h.absA
  have b1 := h.absB
  have key : ∀ n d : Int, 1 ≤ d → d ≤ most → ((n * q - p * d).natAbs : Int) ≤ q → n.natAbs ≤ p.natAbs := fun n d d1 d2 hk => by
    have e1 : ((n * q).natAbs : Int) ≤ ((p * d).natAbs : Int) + q := by omega
    rw [Int.natAbs_mul, Int.natAbs_mul] at e1
    have q1 : (q.natAbs : Int) = q := by omega
    have e2 : p.natAbs * d.natAbs ≤ p.natAbs * (q.natAbs - 1) := Nat.mul_le_mul_left _ (by omega)
    have e3 : p.natAbs * (q.natAbs - 1) + p.natAbs = p.natAbs * q.natAbs := by
      obtain ⟨k, hk⟩ : ∃ k, q.natAbs = k + 1 := ⟨q.natAbs - 1, by omega⟩
      rw [hk]; simp [Nat.mul_succ]
    have e4 : n.natAbs * q.natAbs < (p.natAbs + 1) * q.natAbs := by
      rw [Nat.add_mul]
      have : ((n.natAbs * q.natAbs : Nat) : Int) ≤ ((p.natAbs * d.natAbs : Nat) : Int) + q := by exact_mod_cast e1
      omega
    have := Nat.lt_of_mul_lt_mul_right e4
    omega
  rcases hn with hn | hn
  · injection hn with hn hd; subst hn hd
    exact key _ _ h.ad1 h.adm (by rw [hp, s1, a1]; exact ux.2)
  · injection hn with hn hd; subst hn hd
    exact key _ _ h.bd1 h.bdm (by rw [hp, s2, b1]; exact ux.1)
end
/-- The numbers of a round. -/
theorem NS.sizes {f q most ln ld nn nd num den e : Int} (h : NS f q most ln ld nn nd num den e) : num ≤ q ∧ 0 ≤ ld ∧ ld ≤ most ∧ 0 ≤ ln ∧ (ln ≤ ld ∨ ln = 1) := by
  have h1 := h.xq
  have h2 : 0 ≤ ld := by have := h.fst; omega
  have h3 := Int.mul_nonneg h2 (show 0 ≤ den by have := h.den0; omega)
  have h4 := Int.mul_le_mul_of_nonneg_right h.nd1 (show 0 ≤ num by have := h.den0; have := h.lt; omega)
  refine ⟨by omega, h2, ?_, ?_, ?_⟩ <;> (have := h.fst; have := h.nd1; have := h.ndm; omega)
theorem mul_le_of {a b c : Int} (h : a ≤ c) (hb : 0 ≤ b) : a * b ≤ c * b := Int.mul_le_mul_of_nonneg_right h hb
/-- The numbers of a sum. -/
theorem NS.part {f q most ln ld nn nd num den e n : Int} (h : NS f q most ln ld nn nd num den e) (h0 : 0 ≤ n) (hn : n ≤ (most - ld) / nd) : 0 ≤ n * nn ∧ n * nn ≤ n * nd ∧ 0 ≤ n * nd ∧ n * nd ≤ most ∧ ld + n * nd ≤ most := by
  obtain ⟨r1, r2, r3⟩ := h.room
  have a1 := mul_le_of hn (show 0 ≤ nd by have := h.nd1; omega)
  have a2 := Int.mul_nonneg h0 h.nn0
  have a3 := Int.mul_le_mul_of_nonneg_left h.nnm h0
  obtain ⟨_, b2, _⟩ := h.sizes
  refine ⟨a2, a3, by omega, by omega, by omega⟩
/-- The whole part beside. -/
theorem whole_size {p q f w d n : Int} (hp : p = f + w * q) (f0 : 0 ≤ f) (fq : f < q) (hd : 0 ≤ d) (hdq : d ≤ q) (n0 : 0 ≤ n) (_nd : n ≤ d) (nq : n < q) (h1 : -4611686018427387904 ≤ p) (h2 : p ≤ 4611686018427387904) (h3 : q ≤ 4611686018427387904) :
    -9223372036854775808 ≤ w * d ∧ w * d ≤ 9223372036854775807 ∧ -9223372036854775808 ≤ n + w * d ∧ n + w * d ≤ 9223372036854775807 := by
  by_cases hw : 0 ≤ w
  · have a1 := Int.mul_nonneg hw hd
    have a2 := Int.mul_le_mul_of_nonneg_left hdq hw
    omega
  · have a1 : w * d ≤ 0 := Int.mul_nonpos_of_nonpos_of_nonneg (by omega) hd
    have a2 : w * q ≤ w * d := Int.mul_le_mul_of_nonpos_left (by omega) hdq
    omega
def RetNear (p q most : Int) (w : World) (e : Ending) (w' : World) : Prop := ∃ n d : Int, e = .returned (.tuple #[.agg #[.int .i64 n, .int .i64 d], .int .i64 0]) ∧ Near p q most n d ∧ n.natAbs ≤ 4611686018427387904 ∧ Below w.heap.size w w'

set_option maxRecDepth 100000 in
set_option maxHeartbeats 1600000 in
theorem nearest_bad (p q most : Int) (w : World) (hp : I64 p) (hq : I64 q) (h : ¬ FOk (p, q)) :
    Calls Tryz.prog 24 #[.agg #[.int .i64 p, .int .i64 q], .int .i64 most] w (RetV (.tuple #[.agg #[.int .i64 0, .int .i64 0], .int .i64 2]) w) := by
  have cv := fun W => valid_one hp hq false (decide_eq_false h) W
  clear h hp hq
  obtain ⟨W3, hW3⟩ : ∃ W3, W3 = ((w.alloc (.cells #[.int .i64 p, .int .i64 q] 28)).alloc (.cells #[.int .i64 0, .int .i64 0] 28)) := ⟨_, rfl⟩
  have hB : Below w.heap.size w W3 := by rw [hW3]; exact (((Below.refl _ _).alloc (Nat.le_refl _) _).alloc (by simp; try omega) _)
  have HBW := Lib.hid hB
  have HF := Lib.hid (show Two W3 (w.heap.size) (.int .i64 p) (.int .i64 q) 28 by rw [hW3]; exact (((Two.newAt _ _ _ _ _ (by simp))).alloc _))
  have HR := Lib.hid (show Two W3 (w.heap.size + 1) (.int .i64 0) (.int .i64 0) 28 by rw [hW3]; exact (Two.newAt _ _ _ _ _ (by simp)))
  clear hB
  go_enter Tryz.func24, Tryz.ntmps24
  go_upto_region 1 with fail
  rw [← hW3]
  clear hW3
  have k0 := HF.out.cell0
  have k1 := HF.out.cell1
  have cc := cv W3
  go_wp2_with fail
  refine cc.mono ?_
  rintro e V1 ⟨v1, rfl, hm1, hb1⟩
  subst hm1
  have hw1 := HBW.out.trans (hb1.mono HBW.out.size)
  clear cc cv k0 k1
  have R := HR.out.below hb1 HR.out.lt
  have F := HF.out.below hb1 HF.out.lt
  have HW := Lib.hid hw1
  have k0 := F.cell0
  have k1 := F.cell1
  have r0 := R.cell0
  have r1 := R.cell1
  have g0 := R.free 0
  have g1 := R.free 1
  clear hb1 hw1 R F
  go_wp2
  refine bodyPost_ret (v := .tuple #[.agg #[.int .i64 0, .int .i64 0], .int .i64 2]) (by simp [results, Tryz.results24, go_sem, r0, r1]) rfl ⟨rfl, ?_⟩
  exact (HW.out.setCell (by dsimp only; omega) _).setCell (by dsimp only; omega) _

set_option maxRecDepth 100000 in
set_option maxHeartbeats 1600000 in
theorem nearest_arg (p q most : Int) (w : World) (h : FOk (p, q)) (hm : ¬ (1 ≤ most ∧ most ≤ 4611686018427387904)) :
    Calls Tryz.prog 24 #[.agg #[.int .i64 p, .int .i64 q], .int .i64 most] w (RetV (.tuple #[.agg #[.int .i64 0, .int .i64 0], .int .i64 1]) w) := by
  have cv := fun W => valid_one (i64_lowf h).1 (i64_lowf h).2 true (decide_eq_true h) W
  clear h
  rcases (show most < 1 ∨ ¬ most < 1 ∧ 4611686018427387904 < most by omega) with h1 | ⟨h1, h2⟩
  all_goals clear hm
  all_goals
    obtain ⟨W3, hW3⟩ : ∃ W3, W3 = ((w.alloc (.cells #[.int .i64 p, .int .i64 q] 28)).alloc (.cells #[.int .i64 0, .int .i64 0] 28)) := ⟨_, rfl⟩
    have hB : Below w.heap.size w W3 := by rw [hW3]; exact (((Below.refl _ _).alloc (Nat.le_refl _) _).alloc (by simp; try omega) _)
    have HBW := Lib.hid hB
    have HF := Lib.hid (show Two W3 (w.heap.size) (.int .i64 p) (.int .i64 q) 28 by rw [hW3]; exact (((Two.newAt _ _ _ _ _ (by simp))).alloc _))
    have HR := Lib.hid (show Two W3 (w.heap.size + 1) (.int .i64 0) (.int .i64 0) 28 by rw [hW3]; exact (Two.newAt _ _ _ _ _ (by simp)))
    clear hB
    go_enter Tryz.func24, Tryz.ntmps24
    go_upto_region 1 with fail
    rw [← hW3]
    clear hW3
    have k0 := HF.out.cell0
    have k1 := HF.out.cell1
    have cc := cv W3
    go_wp2_with fail
    refine cc.mono ?_
    rintro e V1 ⟨v1, rfl, hm1, hb1⟩
    subst hm1
    have hw1 := HBW.out.trans (hb1.mono HBW.out.size)
    clear cc cv k0 k1
    have R := HR.out.below hb1 HR.out.lt
    have F := HF.out.below hb1 HF.out.lt
    have HW := Lib.hid hw1
    have k0 := F.cell0
    have k1 := F.cell1
    have r0 := R.cell0
    have r1 := R.cell1
    have g0 := R.free 0
    have g1 := R.free 1
    clear hb1 hw1 R F
    go_wp2
    refine bodyPost_ret (v := .tuple #[.agg #[.int .i64 0, .int .i64 0], .int .i64 1]) (by simp [results, Tryz.results24, go_sem, r0, r1]) rfl ⟨rfl, ?_⟩
    exact (HW.out.setCell (by dsimp only; omega) _).setCell (by dsimp only; omega) _

set_option maxRecDepth 100000 in
set_option maxHeartbeats 1600000 in
theorem nearest_own (p q most : Int) (w : World) (h : FOk (p, q)) (hm : 1 ≤ most ∧ most ≤ 4611686018427387904) (hq : q ≤ most) :
    Calls Tryz.prog 24 #[.agg #[.int .i64 p, .int .i64 q], .int .i64 most] w (RetV (.tuple #[.agg #[.int .i64 p, .int .i64 q], .int .i64 0]) w) := by
  have cv := fun W => valid_one (i64_lowf h).1 (i64_lowf h).2 true (decide_eq_true h) W
  clear h
  obtain ⟨m1, m2⟩ := hm
  obtain ⟨W3, hW3⟩ : ∃ W3, W3 = ((w.alloc (.cells #[.int .i64 p, .int .i64 q] 28)).alloc (.cells #[.int .i64 0, .int .i64 0] 28)) := ⟨_, rfl⟩
  have hB : Below w.heap.size w W3 := by rw [hW3]; exact (((Below.refl _ _).alloc (Nat.le_refl _) _).alloc (by simp; try omega) _)
  have HBW := Lib.hid hB
  have HF := Lib.hid (show Two W3 (w.heap.size) (.int .i64 p) (.int .i64 q) 28 by rw [hW3]; exact (((Two.newAt _ _ _ _ _ (by simp))).alloc _))
  have HR := Lib.hid (show Two W3 (w.heap.size + 1) (.int .i64 0) (.int .i64 0) 28 by rw [hW3]; exact (Two.newAt _ _ _ _ _ (by simp)))
  clear hB
  go_enter Tryz.func24, Tryz.ntmps24
  go_upto_region 1 with fail
  rw [← hW3]
  clear hW3
  have k0 := HF.out.cell0
  have k1 := HF.out.cell1
  have cc := cv W3
  go_wp2_with fail
  refine cc.mono ?_
  rintro e V1 ⟨v1, rfl, hm1, hb1⟩
  subst hm1
  have hw1 := HBW.out.trans (hb1.mono HBW.out.size)
  clear cc cv k0 k1
  have R := HR.out.below hb1 HR.out.lt
  have F := HF.out.below hb1 HF.out.lt
  have HW := Lib.hid hw1
  have k0 := F.cell0
  have k1 := F.cell1
  have r0 := R.cell0
  have r1 := R.cell1
  have g0 := R.free 0
  have g1 := R.free 1
  clear hb1 hw1 R F
  go_wp2
  refine bodyPost_ret (v := .tuple #[.agg #[.int .i64 p, .int .i64 q], .int .i64 0]) (by simp [results, Tryz.results24, go_sem, r0, r1]) rfl ⟨rfl, ?_⟩
  exact (HW.out.setCell (by dsimp only; omega) _).setCell (by dsimp only; omega) _

set_option maxRecDepth 100000 in
set_option maxHeartbeats 6400000 in
theorem nearest_main (p q most : Int) (w : World) (h : FOk (p, q)) (hm : 1 ≤ most) (hq : most < q) :
    Calls Tryz.prog 24 #[.agg #[.int .i64 p, .int .i64 q], .int .i64 most] w (RetNear p q most w) := by
  have cv := fun W => valid_one (i64_lowf h).1 (i64_lowf h).2 true (decide_eq_true h) W
  obtain ⟨wh, hwh⟩ : ∃ wh, wh = p / q := ⟨_, rfl⟩
  obtain ⟨f, hf⟩ : ∃ f, f = p - wh * q := ⟨_, rfl⟩
  obtain ⟨g1, g2, g3, g4⟩ := h
  dsimp only at g1 g2 g3 g4
  have cf : ∀ W (_ : Below w.heap.size w W), Calls Tryz.prog 68 #[.agg #[.int .i64 p, .int .i64 q]] W (RetW (.int .i64 wh) W) := fun W _ => by
    rw [hwh]
    exact (floor_any p q W ⟨by omega, by omega⟩ ⟨by omega, by omega⟩).mono fun e w' h => RetW.of h
  have f0 : 0 ≤ f := by rw [hf, hwh]; have := Int.emod_nonneg p (show q ≠ 0 by omega); have := Int.ediv_mul_add_emod p q; omega
  have fq : f < q := by rw [hf, hwh]; have := Int.emod_lt_of_pos p (show 0 < q by omega); have := Int.ediv_mul_add_emod p q; omega
  have hpf : p = f + wh * q := by omega
  have hfc : Nat.gcd q.natAbs f.natAbs = 1 := by
    have d1 : ((Nat.gcd q.natAbs f.natAbs : Nat) : Int) ∣ q := Int.ofNat_dvd_left.2 (Nat.gcd_dvd_left _ _)
    have d2 : ((Nat.gcd q.natAbs f.natAbs : Nat) : Int) ∣ f := Int.ofNat_dvd_left.2 (Nat.gcd_dvd_right _ _)
    have d3 : ((Nat.gcd q.natAbs f.natAbs : Nat) : Int) ∣ p := by rw [hpf]; exact Int.dvd_add d2 (Int.dvd_mul_of_dvd_right d1)
    have := Nat.dvd_gcd (Int.ofNat_dvd_left.1 d3) (Int.ofNat_dvd_left.1 d1)
    rw [g4] at this
    exact Nat.dvd_one.1 this
  have f1 : 0 < f := by
    rcases Int.lt_or_eq_of_le f0 with h | h
    · exact h
    · rw [← h] at hfc
      simp at hfc
      omega
  obtain ⟨x0, hx0⟩ : ∃ x0, x0 = wh * q := ⟨_, rfl⟩
  have wx := whole_size hpf f0 fq (d := q) (n := 0) (by omega) (by omega) (by omega) (by omega) (by omega) (by omega) (by omega) g2
  have w1 : IntKind.i64.wrap (wh * q) = x0 := by rw [hx0]; exact IntWalk.i64_in _ ⟨wx.1, wx.2.1⟩
  have w2 : IntKind.i64.wrap (p - x0) = f := by rw [hx0, ← hf]; exact IntWalk.i64_in _ (by omega)
  have HS := Lib.hid (NS.start hm f1 fq hfc)
  have HPF := Lib.hid hpf
  have HG := Lib.hid (show -4611686018427387904 ≤ p ∧ p ≤ 4611686018427387904 ∧ q ≤ 4611686018427387904 ∧ Nat.gcd p.natAbs q.natAbs = 1 ∧ 0 ≤ f ∧ f < q from ⟨by omega, by omega, g2, g4, f0, fq⟩)
  have HF0 := Lib.hid f1
  have cne : ∀ W (_ : Below w.heap.size w W) an ad bn bd, I64 an → I64 ad → I64 bn → I64 bd → ad ≠ 0 → Calls Tryz.prog 69 #[.agg #[.int .i64 p, .int .i64 q], .agg #[.int .i64 an, .int .i64 ad], .agg #[.int .i64 bn, .int .i64 bd]] W (RetW (.agg #[.int .i64 (nearR p q an ad bn bd).1, .int .i64 (nearR p q an ad bn bd).2]) W) := fun W _ an ad bn bd a1 a2 a3 a4 a5 => (nearer_any p q an ad bn bd W ⟨by omega, by omega⟩ ⟨by omega, by omega⟩ a1 a2 a3 a4 a5).mono fun e w' h => RetW.of h
  have m1 : ¬ most < 1 := by omega
  have m2 : ¬ 4611686018427387904 < most := by omega
  have m3 : ¬ q ≤ most := by omega
  have HM := Lib.hid (show most < q ∧ 1 ≤ most from ⟨hq, hm⟩)
  clear hwh hf g1 g2 g3 g4 f0 fq hpf hfc f1 hx0 wx hm hq
  obtain ⟨W3, hW3⟩ : ∃ W3, W3 = ((w.alloc (.cells #[.int .i64 p, .int .i64 q] 28)).alloc (.cells #[.int .i64 0, .int .i64 0] 28)) := ⟨_, rfl⟩
  have hB : Below w.heap.size w W3 := by rw [hW3]; exact (((Below.refl _ _).alloc (Nat.le_refl _) _).alloc (by simp; try omega) _)
  have HBW := Lib.hid hB
  have HF := Lib.hid (show Two W3 (w.heap.size) (.int .i64 p) (.int .i64 q) 28 by rw [hW3]; exact (((Two.newAt _ _ _ _ _ (by simp))).alloc _))
  have HR := Lib.hid (show Two W3 (w.heap.size + 1) (.int .i64 0) (.int .i64 0) 28 by rw [hW3]; exact (Two.newAt _ _ _ _ _ (by simp)))
  clear hB
  go_enter Tryz.func24, Tryz.ntmps24
  go_upto_region 1 with fail
  rw [← hW3]
  clear hW3
  have k0 := HF.out.cell0
  have k1 := HF.out.cell1
  have cc := cv W3
  go_wp2_with fail
  refine cc.mono ?_
  rintro e V1 ⟨v1, rfl, hm1, hb1⟩
  subst hm1
  have hw1 := HBW.out.trans (hb1.mono HBW.out.size)
  clear cc cv k0 k1
  have F := Lib.hid (HF.out.below hb1 HF.out.lt)
  have R := Lib.hid (HR.out.below hb1 HR.out.lt)
  have HW := Lib.hid hw1
  clear hb1 hw1 HF HR HBW
  have k0 := F.out.cell0
  have k1 := F.out.cell1
  have cc := cf V1 HW.out
  go_wp2_with fail
  refine cc.mono ?_
  rintro e V2 ⟨v2, rfl, rfl, hn2⟩
  have F2 := Lib.hid (F.out.below hn2 F.out.lt)
  have R2 := Lib.hid (R.out.below hn2 R.out.lt)
  have W2 := Lib.hid (HW.out.trans (hn2.mono HW.out.size))
  clear cc cf hn2 F R HW k0 k1
  obtain ⟨LB, hLB⟩ : ∃ LB, LB = V2.heap.size := ⟨_, rfl⟩
  obtain ⟨U, hU⟩ : ∃ U, U = (V2.alloc (.cells #[.int .i64 1, .int .i64 0] 28)).alloc (.cells #[.int .i64 0, .int .i64 1] 28) := ⟨_, rfl⟩
  have HU := Lib.hid (show U = _ ∧ LB = _ from ⟨hU, hLB⟩)
  clear hU hLB
  go_upto_region 9 with fail
  rw [← HU.out.2, ← HU.out.1]
  have hbU : Below V2.heap.size V2 U := by rw [HU.out.1]; exact ((Below.refl _ _).alloc (Nat.le_refl _) _).alloc (by simp) _
  have T1 := Lib.hid (show Two U LB (.int .i64 1) (.int .i64 0) 28 by rw [HU.out.1, HU.out.2]; exact (Two.newAt _ _ _ _ _ rfl).alloc _)
  have T2 := Lib.hid (show Two U (LB + 1) (.int .i64 0) (.int .i64 1) 28 by rw [HU.out.1, HU.out.2]; exact Two.newAt _ _ _ _ _ (by simp))
  have F3 := Lib.hid (F2.out.below hbU F2.out.lt)
  have R3 := Lib.hid (R2.out.below hbU R2.out.lt)
  have W3' := Lib.hid (W2.out.trans (hbU.mono W2.out.size))
  have HL := Lib.hid (show w.heap.size + 1 < LB by rw [HU.out.2]; exact R2.out.lt)
  clear HU hbU F2 R2 W2
  have k0 := F3.out.cell0
  have k1 := F3.out.cell1
  go_quiet (fail)
  clear k0 k1
  go_wp2_with fail
  have HFt := Lib.hid (show ((f.toNat : Nat) : Int) = f by have := HF0.out; omega)
  go_loopg [9, 10] f.toNat (fun gk t9 t10 wr => ∃ ln ld nn nd num e : Int, t9 = .int .i64 num ∧ t10 = .int .i64 (gk : Int) ∧ NS f q most ln ld nn nd num (gk : Int) e ∧ Two wr LB (.int .i64 ln) (.int .i64 ld) 28 ∧ Two wr (LB + 1) (.int .i64 nn) (.int .i64 nd) 28 ∧ Two wr w.heap.size (.int .i64 p) (.int .i64 q) 28 ∧ Two wr (w.heap.size + 1) (.int .i64 0) (.int .i64 0) 28 ∧ Below w.heap.size w wr)
  case atStart =>
    refine ⟨1, 0, 0, 1, q, 1, rfl, by rw [HFt.out], by rw [HFt.out]; exact HS.out, T1.out.drewN _, T2.out.drewN _, F3.out.drewN _, R3.out.drewN _, W3'.out.drewN _⟩
  case round =>
    clear T1 T2 F3 R3 W3' HS HFt HF0
    obtain ⟨ln, ld, nn, nd, num, e, rfl, rfl, hs, hA, hB, hX, hR, hbl⟩ := hrel
    obtain ⟨y1, y2, y3, y4, y5⟩ := hs.sizes
    obtain ⟨c1, c2, c3, c4⟩ := hs.c1
    obtain ⟨r1, r2, r3⟩ := hs.room
    obtain ⟨G1, G2, G3, G4, G5, G6⟩ := HG.out
    obtain ⟨M1, M2⟩ := HM.out
    have n1 := hs.nd1
    have n2 := hs.ndm
    have n3 := hs.nn0
    have n4 := hs.nnm
    have d0 := hs.den0
    have d1 := hs.lt
    have pc := hs.part (n := num / (gk : Int)) (by omega)
    have pr := hs.part (n := (most - ld) / nd) r1 (Int.le_refl _)
    have PN := Lib.hid (fun h => hs.next M1 h)
    have PL := Lib.hid (fun h => hs.last M2 h)
    have HSS := Lib.hid hs
    clear hs
    obtain ⟨c, hc⟩ : ∃ c, c = num / (gk : Int) := ⟨_, rfl⟩
    obtain ⟨room, hr⟩ : ∃ room, room = (most - ld) / nd := ⟨_, rfl⟩
    have cle : num / (gk : Int) ≤ num := Int.ediv_le_self _ (by omega)
    have rle : (most - ld) / nd ≤ most - ld := Int.ediv_le_self _ (by omega)
    rw [← hc] at c1 c2 pc cle PN PL
    rw [← hr] at r1 r2 r3 pc pr rle PN PL
    have e1 : IntKind.i64.wrap (Int.tdiv num (gk : Int)) = c := by rw [Int.tdiv_eq_ediv_of_nonneg (by omega), ← hc]; exact IntWalk.i64_in _ (by omega)
    have e2 : IntKind.i64.wrap (most - ld) = most - ld := IntWalk.i64_in _ (by omega)
    have e3 : IntKind.i64.wrap (Int.tdiv (most - ld) nd) = room := by rw [Int.tdiv_eq_ediv_of_nonneg (by omega), ← hr]; exact IntWalk.i64_in _ (by omega)
    have z1 : ¬ (gk : Int) = 0 := by omega
    have z1n : ¬ gk = 0 := by omega
    have z2 : ¬ nd = 0 := by omega
    have HA := Lib.hid hA
    have HB := Lib.hid hB
    have HX := Lib.hid hX
    have HR := Lib.hid hR
    have HBL := Lib.hid hbl
    have k0 := hA.cell0
    have k1 := hA.cell1
    have k2 := hB.cell0
    have k3 := hB.cell1
    have hdl := HL.out
    have hlA := hA.lt
    have hlB := hB.lt
    clear hA hB hX hR hbl hc hr
    by_cases hcr : room < c
    · have NF' := PL.out hcr
      have a0 : ld + room * nd ≤ most := r2
      have s1 : IntKind.i64.wrap (room * nn) = room * nn := IntWalk.i64_in _ (by omega)
      have s2 : IntKind.i64.wrap (ln + room * nn) = ln + room * nn := IntWalk.i64_in _ (by omega)
      have s3 : IntKind.i64.wrap (room * nd) = room * nd := IntWalk.i64_in _ (by omega)
      have s4 : IntKind.i64.wrap (ld + room * nd) = ld + room * nd := IntWalk.i64_in _ (by omega)
      have wa := whole_size HPF.out G5 G6 (d := ld + room * nd) (n := ln + room * nn) (by omega) (by omega) NF'.an0 NF'.anm (by have := NF'.anm; omega) G1 G2 G3
      have wb := whole_size HPF.out G5 G6 (d := nd) (n := nn) (by omega) (by omega) n3 n4 (by omega) G1 G2 G3
      have hpk := NF'.pick wh
      have hsz := fun n d h => near_size (n := n) (d := d) (w := wh) M1 HPF.out G4 M2 NF' h
      have ad1 := NF'.ad1
      obtain ⟨an, han⟩ : ∃ an, an = ln + room * nn := ⟨_, rfl⟩
      obtain ⟨ad, had⟩ : ∃ ad, ad = ld + room * nd := ⟨_, rfl⟩
      replace s2 : IntKind.i64.wrap (ln + room * nn) = an := s2.trans han.symm
      replace s4 : IntKind.i64.wrap (ld + room * nd) = ad := s4.trans had.symm
      rw [← han] at wa hpk hsz
      rw [← had] at wa hpk hsz ad1 a0
      obtain ⟨xa, hxa⟩ : ∃ xa, xa = wh * ad := ⟨_, rfl⟩
      obtain ⟨xb, hxb⟩ : ∃ xb, xb = wh * nd := ⟨_, rfl⟩
      rw [← hxa] at wa hpk hsz
      rw [← hxb] at wb hpk hsz
      have s5 : IntKind.i64.wrap (wh * ad) = xa := by rw [hxa]; exact IntWalk.i64_in _ (by rw [← hxa]; exact ⟨wa.1, wa.2.1⟩)
      have s6 : IntKind.i64.wrap (wh * nd) = xb := by rw [hxb]; exact IntWalk.i64_in _ (by rw [← hxb]; exact ⟨wb.1, wb.2.1⟩)
      obtain ⟨ya, hya⟩ : ∃ ya, ya = an + xa := ⟨_, rfl⟩
      obtain ⟨yb, hyb⟩ : ∃ yb, yb = nn + xb := ⟨_, rfl⟩
      rw [← hya] at wa hpk hsz
      rw [← hyb] at wb hpk hsz
      have s7 : IntKind.i64.wrap (an + xa) = ya := by rw [hya]; exact IntWalk.i64_in _ (by rw [← hya]; exact wa.2.2)
      have s8 : IntKind.i64.wrap (nn + xb) = yb := by rw [hyb]; exact IntWalk.i64_in _ (by rw [← hyb]; exact wb.2.2)
      have cy := fun W hW => cne W hW ya ad yb nd wa.2.2 ⟨by omega, by omega⟩ wb.2.2 ⟨by omega, by omega⟩ (by omega)
      rw [← HPF.out] at hpk
      have hN := hsz (nearR p q ya ad yb nd).1 (nearR p q ya ad yb nd).2 (by unfold nearR; split <;> simp)
      have HFIN := Lib.hid (show Near p q most (nearR p q ya ad yb nd).1 (nearR p q ya ad yb nd).2 ∧ (nearR p q ya ad yb nd).1.natAbs ≤ 4611686018427387904 from ⟨hpk, by omega⟩)
      generalize (nearR p q ya ad yb nd).1 = fn at *
      generalize (nearR p q ya ad yb nd).2 = fd at *
      clear cne hpk hsz hN NF' PN PL pc pr G1 G2 G3 G4 G5 G6 M1 M2 HSS hya hyb hxa hxb
      clear wa wb han had y1 y2 y3 y4 y5 c1 c2 c3 c4 r1 r2 r3 cle rle n1 n2 n3 n4 d0 d1 a0
      obtain ⟨NB, hNB⟩ : ∃ NB, NB = wr.heap.size := ⟨_, rfl⟩
      obtain ⟨X1, hX1⟩ : ∃ X1, X1 = wr.alloc (.cells #[.int .i64 an, .int .i64 ad] 28) := ⟨_, rfl⟩
      have HU := Lib.hid (show X1 = _ ∧ NB = _ from ⟨hX1, hNB⟩)
      clear hX1 hNB
      go_upto_region 14 with fail
      rw [← HU.out.2, ← HU.out.1]
      have hbX : Below wr.heap.size wr X1 := by rw [HU.out.1]; exact (Below.refl _ _).alloc (Nat.le_refl _) _
      have TN := Lib.hid (show Two X1 NB (.int .i64 an) (.int .i64 ad) 28 by rw [HU.out.1, HU.out.2]; exact Two.newAt _ _ _ _ _ rfl)
      have HNB := Lib.hid (show LB + 1 < NB by rw [HU.out.2]; exact hlB)
      have YA := Lib.hid (HA.out.below hbX HA.out.lt)
      have YB := Lib.hid (HB.out.below hbX HB.out.lt)
      have YX := Lib.hid (HX.out.below hbX HX.out.lt)
      have YR := Lib.hid (HR.out.below hbX HR.out.lt)
      have YW := Lib.hid (HBL.out.trans (hbX.mono HBL.out.size))
      clear HU hbX HA HB HX HR HBL k0 k1 k2 k3 hlA hlB hdl
      have k0 := TN.out.cell0
      have k1 := TN.out.cell1
      have k2 := YA.out.cell0
      have k3 := YA.out.cell1
      have g0 := YA.out.free 0
      have g1 := YA.out.free 1
      obtain ⟨X2, hX2⟩ : ∃ X2, X2 = (X1.setCell ⟨LB, 0, none⟩ (.int .i64 an)).setCell ⟨LB, 1, none⟩ (.int .i64 ad) := ⟨_, rfl⟩
      have HX2 := Lib.hid hX2
      clear hX2
      go_upto_region 18 with fail
      rw [← HX2.out]
      have hdl := HL.out
      have hnl := HNB.out
      have ZA := Lib.hid (show Two X2 LB _ _ _ by rw [HX2.out]; exact (YA.out.set0 _).set1 _)
      have ZB := Lib.hid (show Two X2 (LB + 1) _ _ _ by rw [HX2.out]; exact (YB.out.setOther ⟨LB, 0, none⟩ _ (by dsimp only; omega)).setOther ⟨LB, 1, none⟩ _ (by dsimp only; omega))
      have ZX := Lib.hid (show Two X2 w.heap.size _ _ _ by rw [HX2.out]; exact (YX.out.setOther ⟨LB, 0, none⟩ _ (by dsimp only; omega)).setOther ⟨LB, 1, none⟩ _ (by dsimp only; omega))
      have ZR := Lib.hid (show Two X2 (w.heap.size + 1) _ _ _ by rw [HX2.out]; exact (YR.out.setOther ⟨LB, 0, none⟩ _ (by dsimp only; omega)).setOther ⟨LB, 1, none⟩ _ (by dsimp only; omega))
      have ZW := Lib.hid (show Below w.heap.size w X2 by rw [HX2.out]; exact (YW.out.setCell (by dsimp only; omega) _).setCell (by dsimp only; omega) _)
      clear HX2 YA YB YX YR YW TN HNB k0 k1 k2 k3 g0 g1 hnl
      have k0 := ZA.out.cell0
      have k1 := ZA.out.cell1
      have k2 := ZB.out.cell0
      have k3 := ZB.out.cell1
      obtain ⟨N3, hN3⟩ : ∃ N3, N3 = X2.heap.size := ⟨_, rfl⟩
      obtain ⟨X3, hX3⟩ : ∃ X3, X3 = X2.alloc (.cells #[.int .i64 ya, .int .i64 ad] 28) := ⟨_, rfl⟩
      have HU := Lib.hid (show X3 = _ ∧ N3 = _ from ⟨hX3, hN3⟩)
      clear hX3 hN3
      go_upto_region 19 with fail
      rw [← HU.out.2, ← HU.out.1]
      have hbX : Below X2.heap.size X2 X3 := by rw [HU.out.1]; exact (Below.refl _ _).alloc (Nat.le_refl _) _
      have TN3 := Lib.hid (show Two X3 N3 (.int .i64 ya) (.int .i64 ad) 28 by rw [HU.out.1, HU.out.2]; exact Two.newAt _ _ _ _ _ rfl)
      have VB := Lib.hid (ZB.out.below hbX ZB.out.lt)
      have VX := Lib.hid (ZX.out.below hbX ZX.out.lt)
      have VR := Lib.hid (ZR.out.below hbX ZR.out.lt)
      have VW := Lib.hid (ZW.out.trans (hbX.mono ZW.out.size))
      clear HU hbX ZB ZX ZR ZW
      clear k0 k1 k2 k3 ZA
      have k2 := VB.out.cell0
      have k3 := VB.out.cell1
      obtain ⟨N4, hN4⟩ : ∃ N4, N4 = X3.heap.size := ⟨_, rfl⟩
      obtain ⟨X4, hX4⟩ : ∃ X4, X4 = X3.alloc (.cells #[.int .i64 yb, .int .i64 nd] 28) := ⟨_, rfl⟩
      have HU := Lib.hid (show X4 = _ ∧ N4 = _ from ⟨hX4, hN4⟩)
      clear hX4 hN4
      go_upto_region 20 with fail
      rw [← HU.out.2, ← HU.out.1]
      have hbX : Below X3.heap.size X3 X4 := by rw [HU.out.1]; exact (Below.refl _ _).alloc (Nat.le_refl _) _
      have TN4 := Lib.hid (show Two X4 N4 (.int .i64 yb) (.int .i64 nd) 28 by rw [HU.out.1, HU.out.2]; exact Two.newAt _ _ _ _ _ rfl)
      have U3 := Lib.hid (TN3.out.below hbX TN3.out.lt)
      have UX := Lib.hid (VX.out.below hbX VX.out.lt)
      have UR := Lib.hid (VR.out.below hbX VR.out.lt)
      have UW := Lib.hid (VW.out.trans (hbX.mono VW.out.size))
      clear HU hbX TN3 VX VR VW
      clear k2 k3 VB
      have k0 := UX.out.cell0
      have k1 := UX.out.cell1
      have k2 := U3.out.cell0
      have k3 := U3.out.cell1
      have k4 := TN4.out.cell0
      have k5 := TN4.out.cell1
      have cc := cy _ UW.out
      go_wp2_with fail
      refine cc.mono ?_
      rintro e9 X5 ⟨v9, rfl, rfl, hn9⟩
      have RR := UR.out.below hn9 UR.out.lt
      have WW := Lib.hid (UW.out.trans (hn9.mono UW.out.size))
      have r0 := RR.cell0
      have r1 := RR.cell1
      have g0 := RR.free 0
      have g1 := RR.free 1
      clear k0 k1 k2 k3 k4 k5 cc cy hn9 RR UR UX U3 TN4 UW
      go_wp2
      refine bodyPost_ret (v := .tuple #[.agg #[.int .i64 fn, .int .i64 fd], .int .i64 0]) (by simp [results, Tryz.results24, go_sem, r0, r1]) rfl ⟨fn, fd, rfl, HFIN.out.1, HFIN.out.2, ?_⟩
      exact (WW.out.setCell (by dsimp only; omega) _).setCell (by dsimp only; omega) _
    · have NS' := PN.out (by omega)
      obtain ⟨p1, p2, p3, p4, p5⟩ := pc (by omega)
      have s1 : IntKind.i64.wrap (c * nn) = c * nn := IntWalk.i64_in _ (by omega)
      have s2 : IntKind.i64.wrap (ln + c * nn) = ln + c * nn := IntWalk.i64_in _ (by omega)
      have s3 : IntKind.i64.wrap (c * nd) = c * nd := IntWalk.i64_in _ (by omega)
      have s4 : IntKind.i64.wrap (ld + c * nd) = ld + c * nd := IntWalk.i64_in _ (by omega)
      obtain ⟨r, hr⟩ : ∃ r, r = num % (gk : Int) := ⟨_, rfl⟩
      rw [← hr] at NS' c2 c3 c4
      have s5 : IntKind.i64.wrap (Int.tmod num (gk : Int)) = r := by rw [Int.tmod_eq_emod_of_nonneg (by omega), ← hr]; exact IntWalk.i64_in _ (by omega)
      have HNS := Lib.hid NS'
      have HTm := Lib.hid (show Int.tmod num (gk : Int) = r by rw [Int.tmod_eq_emod_of_nonneg (by omega), ← hr])
      have HRr := Lib.hid (show 0 ≤ r ∧ r < (gk : Int) from ⟨c3, c4⟩)
      obtain ⟨an, han⟩ : ∃ an, an = ln + c * nn := ⟨_, rfl⟩
      obtain ⟨ad, had⟩ : ∃ ad, ad = ld + c * nd := ⟨_, rfl⟩
      rw [← han, ← had] at HNS
      replace s2 : IntKind.i64.wrap (ln + c * nn) = an := s2.trans han.symm
      replace s4 : IntKind.i64.wrap (ld + c * nd) = ad := s4.trans had.symm
      clear NS' PN PL pc pr G1 G2 G3 G4 G5 G6 M1 M2 HSS cne hr
      clear han had y1 y2 y3 y4 y5 c1 c2 c3 c4 r1 r2 r3 cle rle n1 n2 n3 n4 d0 d1 p1 p2 p3 p4 p5
      obtain ⟨NB, hNB⟩ : ∃ NB, NB = wr.heap.size := ⟨_, rfl⟩
      obtain ⟨X1, hX1⟩ : ∃ X1, X1 = wr.alloc (.cells #[.int .i64 an, .int .i64 ad] 28) := ⟨_, rfl⟩
      have HU := Lib.hid (show X1 = _ ∧ NB = _ from ⟨hX1, hNB⟩)
      clear hX1 hNB
      go_upto_region 14 with fail
      rw [← HU.out.2, ← HU.out.1]
      have hbX : Below wr.heap.size wr X1 := by rw [HU.out.1]; exact (Below.refl _ _).alloc (Nat.le_refl _) _
      have TN := Lib.hid (show Two X1 NB (.int .i64 an) (.int .i64 ad) 28 by rw [HU.out.1, HU.out.2]; exact Two.newAt _ _ _ _ _ rfl)
      have HNB := Lib.hid (show LB + 1 < NB by rw [HU.out.2]; exact hlB)
      have YA := Lib.hid (HA.out.below hbX HA.out.lt)
      have YB := Lib.hid (HB.out.below hbX HB.out.lt)
      have YX := Lib.hid (HX.out.below hbX HX.out.lt)
      have YR := Lib.hid (HR.out.below hbX HR.out.lt)
      have YW := Lib.hid (HBL.out.trans (hbX.mono HBL.out.size))
      clear HU hbX HA HB HX HR HBL k0 k1 k2 k3 hlA hlB hdl
      have k0 := TN.out.cell0
      have k1 := TN.out.cell1
      have k2 := YA.out.cell0
      have k3 := YA.out.cell1
      go_upto_region 16 with fail
      clear k0 k1 k2 k3
      refine Lex.wp_region_lex (fun w' => Two w' (LB + 1) (.int .i64 nn) (.int .i64 nd) 28 ∧ Two w' NB (.int .i64 an) (.int .i64 ad) 28) (fun j => j != 3)
        [(0, true), (1, true), (2, false), (3, false)]
        (by kernel_rfl) (by kernel_rfl) (by kernel_rfl) (by kernel_rfl) ⟨YB.out, TN.out⟩ ?_
      iterate 2 (refine Lex.lex_take (v := ?_) rfl rfl (by rfl) (fun _ hS => ?_) ?_; rotate_left 1; (focus (have g0_0 := hS.1.cell0; have g0_1 := hS.1.cell1; have g1_0 := hS.2.cell0; have g1_1 := hS.2.cell1; clear hS; go_simp; with_reducible rfl)); simp only [List.setIfInBounds_toArray, List.set_cons_zero, List.set_cons_succ])
      refine Lex.lex_do rfl ?_
      have hb0 : Below X1.heap.size X1 X1.drew := ⟨rfl, rfl, rfl, Nat.le_refl _, fun _ _ => rfl⟩
      have hw0 : Below w.heap.size w X1.drew := ⟨YW.out.os, YW.out.tape, YW.out.output, YW.out.size, YW.out.block⟩
      generalize hV0 : X1.drew = V0 at *
      clear hV0
      have KA := YA.out.below hb0 YA.out.lt
      have KB := YB.out.below hb0 YB.out.lt
      have KN := TN.out.below hb0 TN.out.lt
      have KX := YX.out.below hb0 YX.out.lt
      have KR := YR.out.below hb0 YR.out.lt
      have hdl := HL.out
      have hnl := HNB.out
      have r0 := KA.cell0
      have r1 := KA.cell1
      have g0 := KA.free 0
      have g1 := KA.free 1
      have r2 := KB.cell0
      have r3 := KB.cell1
      have g2 := KB.free 0
      have g3 := KB.free 1
      have ZA := Lib.hid (((((KA.set0 (.int .i64 nn)).set1 (.int .i64 nd)).setOther ⟨LB + 1, 0, none⟩ (.int .i64 an) (by dsimp only; omega)).setOther ⟨LB + 1, 1, none⟩ (.int .i64 ad) (by dsimp only; omega)))
      have ZB := Lib.hid (((((KB.setOther ⟨LB, 0, none⟩ (.int .i64 nn) (by dsimp only; omega)).setOther ⟨LB, 1, none⟩ (.int .i64 nd) (by dsimp only; omega)).set0 (.int .i64 an)).set1 (.int .i64 ad)))
      have ZX := Lib.hid (((((KX.setOther ⟨LB, 0, none⟩ (.int .i64 nn) (by dsimp only; omega)).setOther ⟨LB, 1, none⟩ (.int .i64 nd) (by dsimp only; omega)).setOther ⟨LB + 1, 0, none⟩ (.int .i64 an) (by dsimp only; omega)).setOther ⟨LB + 1, 1, none⟩ (.int .i64 ad) (by dsimp only; omega)))
      have ZR := Lib.hid (((((KR.setOther ⟨LB, 0, none⟩ (.int .i64 nn) (by dsimp only; omega)).setOther ⟨LB, 1, none⟩ (.int .i64 nd) (by dsimp only; omega)).setOther ⟨LB + 1, 0, none⟩ (.int .i64 an) (by dsimp only; omega)).setOther ⟨LB + 1, 1, none⟩ (.int .i64 ad) (by dsimp only; omega)))
      have ZW := Lib.hid ((((hw0.setCell (p := ⟨LB, 0, none⟩) (by dsimp only; omega) (.int .i64 nn)).setCell (p := ⟨LB, 1, none⟩) (by dsimp only; omega) (.int .i64 nd)).setCell (p := ⟨LB + 1, 0, none⟩) (by dsimp only; omega) (.int .i64 an)).setCell (p := ⟨LB + 1, 1, none⟩) (by dsimp only; omega) (.int .i64 ad))
      have E8 := (KB.setOther ⟨LB, 0, none⟩ (.int .i64 nn) (by dsimp only; omega)).setOther ⟨LB, 1, none⟩ (.int .i64 nd) (by dsimp only; omega)
      have E9 := (KN.setOther ⟨LB, 0, none⟩ (.int .i64 nn) (by dsimp only; omega)).setOther ⟨LB, 1, none⟩ (.int .i64 nd) (by dsimp only; omega)
      clear KA KB KN KX KR hw0 hb0
      go_wp2_with fail
      have E0 := E8
      have E1 := E9
      refine Lex.lexQ_normal (fun _ => ⟨E0, E1⟩) ?_
      refine Lex.lex_do rfl ?_
      clear E0 E1
      clear E8 E9
      go_wp2_with fail
      refine Lex.lexQ_normal (fun h => absurd h (by decide)) ?_
      refine Lex.lex_nil ?_
      go_upto_region 17 with fail
      clear r0 r1 r2 r3 g0 g1 g2 g3
      go_quiet (fail)
      go_wp2
      go_roundg r.toNat
      case rel =>
        have hrn : ((r.toNat : Nat) : Int) = r := Int.toNat_of_nonneg HRr.out.1
        exact ⟨nn, nd, an, ad, (gk : Int), -e, rfl, by rw [HTm.out, hrn], by rw [hrn]; exact HNS.out, ZA.out.drewN _, ZB.out.drewN _, ZX.out.drewN _, ZR.out.drewN _, ZW.out.drewN _⟩
      case measure => have := HRr.out; omega

end Go.Proofs.YtklngjjokbhfpaaGreat
