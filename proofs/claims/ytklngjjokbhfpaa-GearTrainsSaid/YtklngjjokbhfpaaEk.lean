/- The walk of GearTrains (printed by genek.py). -/
import Derived.Test.YtklngjjokbhfpaaEj
import Derived.Test.YtklngjjokbhfpaaEi
import Derived.Test.YtklngjjokbhfpaaPkDl
import Derived.Test.YtklngjjokbhfpaaEg
namespace Go.Proofs.Ytklngjjokbhfpaa
open Go.RowKit

theorem mulP_lows {p q r s : Int} (hq : 0 < q) (hs : 0 < s) : mulP (lowP p q) (lowP r s) = lowP (p * r) (q * s) := by
  obtain ⟨a1, a2, _⟩ := lowP_out (p := p) hq
  obtain ⟨b1, b2, _⟩ := lowP_out (p := r) hs
  unfold mulP
  generalize lowP p q = x at *
  generalize lowP r s = y at *
  refine lowP_eq (Int.mul_pos (by omega) (by omega)) (Int.mul_pos hq hs) ?_
  have e1 : x.1 * y.1 * (q * s) = (x.1 * q) * (y.1 * s) := by grind
  rw [e1, a1, b1]
  grind
theorem lowP_one {a : Int} (h : 0 < a) : lowP a a = (1, 1) := by
  rw [lowP_eq (r := 1) (s := 1) h (by omega) (by omega), lowP_self (by omega) (by decide)]
theorem lowP_fok {p q : Int} (hp : p.natAbs ≤ 4611686018427387904) (hq : 0 < q) (hq2 : q ≤ 4611686018427387904) : FOk ((lowP p q).1, (lowP p q).2) := by
  obtain ⟨_, a2, a3, a4, a5⟩ := lowP_out (p := p) hq
  exact ⟨a2, by show (lowP p q).2 ≤ _; omega, by show (lowP p q).1.natAbs ≤ _; omega, a3⟩
theorem gmul_w {x y z : Int × Int} (h1 : FOk x) (h2 : FOk y) (hz : mulP x y = z) (hf : FOk z) {w : World} : ∀ W (_ : Below w.heap.size w W), Calls Try.prog 29 #[.agg #[.int .i64 x.1, .int .i64 x.2], .agg #[.int .i64 y.1, .int .i64 y.2]] W (RetW (.tuple #[.agg #[.int .i64 z.1, .int .i64 z.2], .int .i64 0]) W) := fun W _ => by
  have := gmul_ok x.1 x.2 y.1 y.2 W (i64_lowf h1).1 (i64_lowf h1).2 (i64_lowf h2).1 (i64_lowf h2).2 h1 h2
  rw [lowV_eq, show lowP (x.1 * y.1) (x.2 * y.2) = z from hz, fracV_in hf.2.2.1 (by have := hf.1; have := hf.2.1; omega)] at this
  exact this.mono fun e w' h => RetW.of h
/-- The train's parts. -/
structure Parts (xs ys : List Int) (k : Nat) : Prop where
  ok : FOk ((lowP (prodL (xs.take k)) (prodL (ys.take k))).1, (lowP (prodL (xs.take k)) (prodL (ys.take k))).2)
theorem train_part {xs ys : List Int} (h : TrainOk xs ys) (k : Nat) : FOk (lowP (prodL (xs.take k)) (prodL (ys.take k))) := by
  obtain ⟨h1, h2, h3, h4⟩ := h
  have p1 := prodL_six (l := xs.take k) (fun x hx => h4 x (by simp [List.mem_of_mem_take hx])) (by simp; omega)
  have p2 := prodL_six (l := ys.take k) (fun x hx => h4 x (by simp [List.mem_of_mem_take hx])) (by simp; omega)
  exact lowP_fok (by omega) (by omega) (by omega)
theorem train_one {xs ys : List Int} (h : TrainOk xs ys) {k : Nat} (hk : k < xs.length) (hk2 : k < ys.length) : TrainOk [xs[k]] [ys[k]] := by
  obtain ⟨h1, h2, h3, h4⟩ := h
  refine ⟨by simp, by simp, rfl, fun x hx => h4 x ?_⟩
  simp at hx
  rcases hx with rfl | rfl <;> simp
theorem train_next {xs ys : List Int} (h : TrainOk xs ys) {k : Nat} (hk : k < xs.length) (hk2 : k < ys.length) : mulP (lowP (prodL (xs.take k)) (prodL (ys.take k))) (ratP [xs[k]] [ys[k]]) = lowP (prodL (xs.take (k + 1))) (prodL (ys.take (k + 1))) := by
  have ho := train_one h hk hk2
  obtain ⟨h1, h2, h3, h4⟩ := h
  have p2 := prodL_six (l := ys.take k) (fun x hx => h4 x (by simp [List.mem_of_mem_take hx])) (by simp; omega)
  have py := ho.2.2.2 ys[k] (by simp)
  have e1 : xs.take (k + 1) = xs.take k ++ [xs[k]] := by simp
  have e2 : ys.take (k + 1) = ys.take k ++ [ys[k]] := by simp
  have f1 : prodL [xs[k]] = xs[k] := by simp [prodL]
  have f2 : prodL [ys[k]] = ys[k] := by simp [prodL]
  unfold ratP
  rw [f1, f2, mulP_lows (by omega) (by omega), e1, e2, prodL_snoc, prodL_snoc]
theorem train_back {xs ys : List Int} (h : TrainOk xs ys) : TrainOk ys xs ∧ mulP (ratP xs ys) (ratP ys xs) = (1, 1) := by
  obtain ⟨h1, h2, h3, h4⟩ := h
  have p1 := prodL_six (l := xs) (fun x hx => h4 x (by simp [hx])) h2
  have p2 := prodL_six (l := ys) (fun x hx => h4 x (by simp [hx])) (by omega)
  refine ⟨⟨by omega, by omega, by omega, fun x hx => h4 x (by simp at hx ⊢; exact hx.symm)⟩, ?_⟩
  unfold ratP
  rw [mulP_lows (by omega) (by omega), Int.mul_comm (prodL ys), lowP_one (Int.mul_pos (by omega) (by omega))]
theorem train_full {xs ys : List Int} (h : TrainOk xs ys) : FOk (ratP xs ys) := by
  have := train_part h 8
  rwa [List.take_of_length_le (by have := h.2.1; omega), List.take_of_length_le (by have := h.2.1; have := h.2.2.1; omega)] at this
theorem ratio_w {a1 a2 : Addr} {n1 c1 n2 c2 : Nat} {xs ys : List Int} (hxl : xs.length = n1) (hyl : ys.length = n2) (h1 : n1 ≤ 8) (h2 : n2 ≤ 8) {v : Value} (hv : (if TrainOk xs ys then .tuple #[.agg #[.int .i64 (ratP xs ys).1, .int .i64 (ratP xs ys).2], .int .i64 0] else .tuple #[.agg #[.int .i64 0, .int .i64 0], .int .i64 1]) = v) {w : World} :
    ∀ W (_ : Below w.heap.size w W), Ints .i64 W (some a1) xs → Ints .i64 W (some a2) ys → Calls Try.prog 27 #[.agg #[.slice (some a1) n1 c1, .slice (some a2) n2 c2]] W (RetW v W) := fun W _ hx hy => by
  subst hv
  exact (ratio_any a1 a2 n1 c1 n2 c2 xs ys W hx hy hxl hyl h1 h2).mono fun e w' h => RetW.of h

set_option maxRecDepth 100000 in
set_option maxHeartbeats 3200000 in
theorem trains_bad (A : Option Addr) (n c : Nat) (B : Option Addr) (m d : Nat) (xs ys : List Int) (w : World) (hA : Ints .i64 w A xs) (hB : Ints .i64 w B ys) (hxl : xs.length = n) (hyl : ys.length = m) (hnc : n ≤ c) (hmd : m ≤ d) (hA0 : A = none → c = 0) (hB0 : B = none → d = 0) (hc9 : c ≤ 9223372036854775807) (hd9 : d ≤ 9223372036854775807) (hT : ¬ TrainOk (xs.take 8) (ys.take 8)) :
    Calls Try.prog 11 #[.agg #[.slice A n c, .slice B m d]] w (RetV (.bool true) w) := by
  obtain ⟨us, hus⟩ : ∃ us, us = xs.take 8 := ⟨_, rfl⟩
  obtain ⟨vs, hvs⟩ : ∃ vs, vs = ys.take 8 := ⟨_, rfl⟩
  have cf : ∀ W (_ : Below w.heap.size w W), Calls Try.prog 26 #[.agg #[.slice A n c, .slice B m d]] W (RetFew xs ys W) := fun W hW => few_any A n c B m d xs ys W (hA.below hW) (hB.below hW) hxl hyl hnc hmd hA0 hB0 hc9 hd9
  unfold RetFew at cf
  rw [← hus, ← hvs] at cf
  have lu : us.length ≤ 8 := by rw [hus]; simp; omega
  have lv : vs.length ≤ 8 := by rw [hvs]; simp; omega
  rw [← hus, ← hvs] at hT
  clear hA hB hxl hyl hnc hmd hA0 hB0 hc9 hd9 hus hvs
  have cl := lives_y (w := w)
  have cr := fun (a1 a2 : Addr) (c1 c2 : Nat) => ratio_w (a1 := a1) (a2 := a2) (c1 := c1) (c2 := c2) (xs := us) (ys := vs) rfl rfl lu lv (if_neg hT) (w := w)
  clear hT
  obtain ⟨W3, hW3⟩ : ∃ W3, W3 = (w.alloc (.cells #[.slice A n c, .slice B m d] 54)) := ⟨_, rfl⟩
  have hB : Below w.heap.size w W3 := by rw [hW3]; exact ((Below.refl _ _).alloc (Nat.le_refl _) _)
  have HBW := Lib.hid hB
  have HF := Lib.hid (show Two W3 (w.heap.size) (.slice A n c) (.slice B m d) 54 by rw [hW3]; exact (Two.newAt _ _ _ _ _ (by simp)))
  clear hB
  go_enter Try.func11, Try.ntmps11
  go_upto_region 1 with fail
  rw [← hW3]
  clear hW3
  have k0 := HF.out.cell0
  have k1 := HF.out.cell1
  have cc := cf W3 HBW.out
  go_wp2_with fail
  refine cc.mono ?_
  rintro e V1 ⟨a1, c1, a2, c2, rfl, hc1, hm1, hc2, hm2, hI1, hI2, hn⟩
  clear cc cf k0 k1
  obtain ⟨NB, hNB⟩ : ∃ NB, NB = V1.heap.size := ⟨_, rfl⟩
  obtain ⟨U1, hU1⟩ : ∃ U1, U1 = V1.alloc (.cells #[.slice (some a1) us.length c1, .slice (some a2) vs.length c2] 54) := ⟨_, rfl⟩
  have HU := Lib.hid (show U1 = _ ∧ NB = _ from ⟨hU1, hNB⟩)
  clear hU1 hNB
  go_upto_region 2 with fail
  rw [← HU.out.2, ← HU.out.1]
  have hbX := hn.alloc hn.size (.cells #[.slice (some a1) us.length c1, .slice (some a2) vs.length c2] 54)
  rw [← HU.out.1] at hbX
  have TNB := Lib.hid (show Two U1 NB (.slice (some a1) us.length c1) (.slice (some a2) vs.length c2) 54 by rw [HU.out.1, HU.out.2]; exact Two.newAt _ _ _ _ _ rfl)
  have LNB := Lib.hid (show _ ≤ NB by rw [HU.out.2]; exact hn.size)
  have XW := Lib.hid (HBW.out.trans (hbX.mono HBW.out.size))
  have HI1 := Lib.hid (hI1.below (show Below V1.heap.size V1 U1 by rw [HU.out.1]; exact (Below.refl _ _).alloc (Nat.le_refl _) _))
  have HI2 := Lib.hid (hI2.below (show Below V1.heap.size V1 U1 by rw [HU.out.1]; exact (Below.refl _ _).alloc (Nat.le_refl _) _))
  clear HU hbX hn hI1 hI2 HF HBW LNB
  have k0 := TNB.out.cell0
  have k1 := TNB.out.cell1
  have cc := cr a1 a2 c1 c2 _ XW.out HI1.out HI2.out
  go_wp2_with fail
  refine cc.mono ?_
  rintro e V2 ⟨v2, rfl, rfl, hn⟩
  clear cc k0 k1
  obtain ⟨QB, hQB⟩ : ∃ QB, QB = V2.heap.size := ⟨_, rfl⟩
  obtain ⟨U2, hU2⟩ : ∃ U2, U2 = V2.alloc (.cells #[.int .i64 0, .int .i64 0] 23) := ⟨_, rfl⟩
  have HU := Lib.hid (show U2 = _ ∧ QB = _ from ⟨hU2, hQB⟩)
  clear hU2 hQB
  go_upto_region 3 with fail
  rw [← HU.out.2, ← HU.out.1]
  have hbX := hn.alloc hn.size (.cells #[.int .i64 0, .int .i64 0] 23)
  rw [← HU.out.1] at hbX
  have TQB := Lib.hid (show Two U2 QB (.int .i64 0) (.int .i64 0) 23 by rw [HU.out.1, HU.out.2]; exact Two.newAt _ _ _ _ _ rfl)
  have LQB := Lib.hid (show _ ≤ QB by rw [HU.out.2]; exact hn.size)
  have YW := Lib.hid (XW.out.trans (hbX.mono XW.out.size))
  clear HU hbX hn XW LQB TNB HI1 HI2 TQB
  have cc := cl _ YW.out
  go_wp2_with fail
  refine cc.mono ?_
  rintro e V3 ⟨v3, rfl, rfl, hn3⟩
  have HE := Lib.hid (YW.out.trans (hn3.mono YW.out.size))
  clear cc hn3
  go_wp2
  go_ret
  exact ⟨rfl, HE.out⟩

theorem Ints.one {w : World} {b o : Nat} {xs : List Int} (h : Ints .i64 w (some ⟨b, o, none⟩) xs) {k : Nat} (hk : k < xs.length) : Ints .i64 w (some ⟨b, o + k, none⟩) [xs[k]] := by
  rcases h with h | ⟨b', off, hA, hb, hc⟩
  · simp at h; subst h; simp at hk
  · injection hA with hA; injection hA with h1 h2; subst h1 h2
    refine .inr ⟨b, o + k, rfl, hb, fun j v hj => ?_⟩
    rcases j with _ | j
    · simp at hj; subst hj
      have := hc k (.int .i64 xs[k]) (by simp [hk])
      simpa using this
    · simp at hj

set_option maxRecDepth 100000 in
set_option maxHeartbeats 12800000 in
theorem trains_good (A : Option Addr) (n c : Nat) (B : Option Addr) (m d : Nat) (xs ys : List Int) (w : World) (hA : Ints .i64 w A xs) (hB : Ints .i64 w B ys) (hxl : xs.length = n) (hyl : ys.length = m) (hnc : n ≤ c) (hmd : m ≤ d) (hA0 : A = none → c = 0) (hB0 : B = none → d = 0) (hc9 : c ≤ 9223372036854775807) (hd9 : d ≤ 9223372036854775807) (hT : TrainOk (xs.take 8) (ys.take 8)) :
    Calls Try.prog 11 #[.agg #[.slice A n c, .slice B m d]] w (RetV (.bool true) w) := by
  obtain ⟨us, hus⟩ : ∃ us, us = xs.take 8 := ⟨_, rfl⟩
  obtain ⟨vs, hvs⟩ : ∃ vs, vs = ys.take 8 := ⟨_, rfl⟩
  have cf : ∀ W (_ : Below w.heap.size w W), Calls Try.prog 26 #[.agg #[.slice A n c, .slice B m d]] W (RetFew xs ys W) := fun W hW => few_any A n c B m d xs ys W (hA.below hW) (hB.below hW) hxl hyl hnc hmd hA0 hB0 hc9 hd9
  unfold RetFew at cf
  rw [← hus, ← hvs] at cf
  have lu : us.length ≤ 8 := by rw [hus]; simp; omega
  have lv : vs.length ≤ 8 := by rw [hvs]; simp; omega
  rw [← hus, ← hvs] at hT
  clear hA hB hxl hyl hnc hmd hA0 hB0 hc9 hd9 hus hvs
  have cl := lives_y (w := w)
  have HTT := Lib.hid hT
  have cr := fun (a1 a2 : Addr) (c1 c2 : Nat) => ratio_w (a1 := a1) (a2 := a2) (c1 := c1) (c2 := c2) (xs := us) (ys := vs) rfl rfl lu lv (if_pos hT) (w := w)
  have crb := fun (a1 a2 : Addr) (c1 c2 : Nat) => ratio_w (a1 := a1) (a2 := a2) (c1 := c1) (c2 := c2) (xs := vs) (ys := us) rfl rfl lv lu (if_pos (train_back hT).1) (w := w)
  have cmb := gmul_w (train_full hT) (train_full (train_back hT).1) (train_back hT).2 (by decide) (w := w)
  have hn0 : vs.length = us.length := hT.2.2.1
  have hq6 : us.length ≤ 6 := hT.2.1
  have hq1 : 1 ≤ us.length := hT.1
  obtain ⟨N, hN⟩ : ∃ N, N = us.length := ⟨_, rfl⟩
  have hN2 : vs.length = N := by omega
  have HNL := Lib.hid (show us.length = N ∧ vs.length = N ∧ N ≤ 6 ∧ 1 ≤ N from ⟨hN.symm, hN2, by omega, by omega⟩)
  rw [← hN] at cr crb
  rw [hN2] at cr crb
  obtain ⟨rn, hrn⟩ : ∃ rn, rn = (ratP us vs).1 := ⟨_, rfl⟩
  obtain ⟨rd, hrd⟩ : ∃ rd, rd = (ratP us vs).2 := ⟨_, rfl⟩
  obtain ⟨bn, hbn⟩ : ∃ bn, bn = (ratP vs us).1 := ⟨_, rfl⟩
  obtain ⟨bd, hbd⟩ : ∃ bd, bd = (ratP vs us).2 := ⟨_, rfl⟩
  rw [← hrn, ← hrd] at cr cmb
  rw [← hbn, ← hbd] at crb cmb
  have HR := Lib.hid (show (rn, rd) = ratP us vs by rw [hrn, hrd])
  have hcN : ∀ W (_ : Below w.heap.size w W), Calls Try.prog 26 #[.agg #[.slice A n c, .slice B m d]] W (fun e w' => ∃ (A' : Addr) (c' : Nat) (B' : Addr) (d' : Nat), e = .returned (.agg #[.slice (some A') N c', .slice (some B') N d']) ∧ N ≤ c' ∧ c' ≤ maxLen ∧ N ≤ d' ∧ d' ≤ maxLen ∧ Ints .i64 w' (some A') us ∧ Ints .i64 w' (some B') vs ∧ Below W.heap.size W w') := fun W hW => by
    have := cf W hW
    rw [← hN, hN2] at this
    exact this
  clear cf hT hn0 hq6 hq1 hN hN2 hrn hrd hbn hbd lu lv
  have cf := hcN
  clear hcN
  obtain ⟨W3, hW3⟩ : ∃ W3, W3 = (w.alloc (.cells #[.slice A n c, .slice B m d] 54)) := ⟨_, rfl⟩
  have hB : Below w.heap.size w W3 := by rw [hW3]; exact ((Below.refl _ _).alloc (Nat.le_refl _) _)
  have HBW := Lib.hid hB
  have HF := Lib.hid (show Two W3 (w.heap.size) (.slice A n c) (.slice B m d) 54 by rw [hW3]; exact (Two.newAt _ _ _ _ _ (by simp)))
  clear hB
  go_enter Try.func11, Try.ntmps11
  go_upto_region 1 with fail
  rw [← hW3]
  clear hW3
  have k0 := HF.out.cell0
  have k1 := HF.out.cell1
  have cc := cf W3 HBW.out
  go_wp2_with fail
  refine cc.mono ?_
  rintro e V1 ⟨a1, c1, a2, c2, rfl, hc1, hm1, hc2, hm2, hI1, hI2, hn⟩
  clear cc cf k0 k1
  obtain ⟨NB, hNB⟩ : ∃ NB, NB = V1.heap.size := ⟨_, rfl⟩
  obtain ⟨U1, hU1⟩ : ∃ U1, U1 = V1.alloc (.cells #[.slice (some a1) N c1, .slice (some a2) N c2] 54) := ⟨_, rfl⟩
  have HU := Lib.hid (show U1 = _ ∧ NB = _ from ⟨hU1, hNB⟩)
  clear hU1 hNB
  go_upto_region 2 with fail
  rw [← HU.out.2, ← HU.out.1]
  have hbX := hn.alloc hn.size (.cells #[.slice (some a1) N c1, .slice (some a2) N c2] 54)
  rw [← HU.out.1] at hbX
  have TNB := Lib.hid (show Two U1 NB (.slice (some a1) N c1) (.slice (some a2) N c2) 54 by rw [HU.out.1, HU.out.2]; exact Two.newAt _ _ _ _ _ rfl)
  have LNB := Lib.hid (show _ ≤ NB by rw [HU.out.2]; exact hn.size)
  have XW := Lib.hid (HBW.out.trans (hbX.mono HBW.out.size))
  have HI1 := Lib.hid (hI1.below (show Below V1.heap.size V1 U1 by rw [HU.out.1]; exact (Below.refl _ _).alloc (Nat.le_refl _) _))
  have HI2 := Lib.hid (hI2.below (show Below V1.heap.size V1 U1 by rw [HU.out.1]; exact (Below.refl _ _).alloc (Nat.le_refl _) _))
  clear HU hbX hn hI1 hI2 HF HBW LNB
  have k0 := TNB.out.cell0
  have k1 := TNB.out.cell1
  have cc := cr a1 a2 c1 c2 _ XW.out HI1.out HI2.out
  go_wp2_with fail
  refine cc.mono ?_
  rintro e V2 ⟨v2, rfl, rfl, hn⟩
  clear cc k0 k1
  obtain ⟨QB, hQB⟩ : ∃ QB, QB = V2.heap.size := ⟨_, rfl⟩
  obtain ⟨W4, hW4⟩ : ∃ W4, W4 = V2.alloc (.cells #[.int .i64 rn, .int .i64 rd] 23) := ⟨_, rfl⟩
  have HU := Lib.hid (show W4 = _ ∧ QB = _ from ⟨hW4, hQB⟩)
  clear hW4 hQB
  go_upto_region 3 with fail
  rw [← HU.out.2, ← HU.out.1]
  have hbX := hn.alloc hn.size (.cells #[.int .i64 rn, .int .i64 rd] 23)
  rw [← HU.out.1] at hbX
  have TQB := Lib.hid (show Two W4 QB (.int .i64 rn) (.int .i64 rd) 23 by rw [HU.out.1, HU.out.2]; exact Two.newAt _ _ _ _ _ rfl)
  have LQB := Lib.hid (show _ ≤ QB by rw [HU.out.2]; exact hn.size)
  have SN := Lib.hid (TNB.out.below hbX TNB.out.lt)
  have HW4 := Lib.hid (XW.out.trans (hbX.mono XW.out.size))
  have J1 := Lib.hid (HI1.out.below hbX)
  have J2 := Lib.hid (HI2.out.below hbX)
  clear HU hbX hn XW LQB TNB HI1 HI2 cr
  obtain ⟨b1, o1, ha1, _⟩ := J1.out.get (k := 0) (by have := HNL.out; omega)
  injection ha1 with ha1
  subst ha1
  obtain ⟨b2, o2, ha2, _⟩ := J2.out.get (k := 0) (by have := HNL.out; omega)
  injection ha2 with ha2
  subst ha2
  have ctr : ∀ W (_ : Below w.heap.size w W), Ints .i64 W (some ⟨b1, o1, none⟩) us → Ints .i64 W (some ⟨b2, o2, none⟩) vs → Calls Try.prog 28 #[.agg #[.slice (some ⟨b1, o1, none⟩) N c1, .slice (some ⟨b2, o2, none⟩) N c2], .int .i64 6] W (RetW (.bool true) W) := fun W _ hx hy => (rtrain_ok _ N c1 _ c2 us vs W hx hy HNL.out.1 HNL.out.2.1 HNL.out.2.2.2 HNL.out.2.2.1 (fun x hx => HTT.out.2.2.2 x (by simp [hx])) (fun x hx => HTT.out.2.2.2 x (by simp [hx]))).mono fun e w' h => RetW.of h
  have k0 := SN.out.cell0
  have k1 := SN.out.cell1
  have cc := ctr _ HW4.out J1.out J2.out
  go_wp2_with fail
  refine cc.mono ?_
  rintro e V3 ⟨v3, rfl, rfl, hn⟩
  have SN3 := Lib.hid (SN.out.below hn SN.out.lt)
  have SQ3 := Lib.hid (TQB.out.below hn TQB.out.lt)
  have K1 := Lib.hid (J1.out.below hn)
  have K2 := Lib.hid (J2.out.below hn)
  have HW3' := Lib.hid (HW4.out.trans (hn.mono HW4.out.size))
  clear cc ctr k0 k1 hn SN TQB J1 J2 HW4
  obtain ⟨PB, hPB⟩ : ∃ PB, PB = V3.heap.size := ⟨_, rfl⟩
  obtain ⟨U5, hU5⟩ : ∃ U5, U5 = V3.alloc (.cells #[.int .i64 1, .int .i64 1] 23) := ⟨_, rfl⟩
  have HU := Lib.hid (show U5 = _ ∧ PB = _ from ⟨hU5, hPB⟩)
  clear hU5 hPB
  go_upto_region 6 with fail
  rw [← HU.out.2, ← HU.out.1]
  have TPB := Lib.hid (show Two U5 PB (.int .i64 1) (.int .i64 1) 23 by rw [HU.out.1, HU.out.2]; exact Two.newAt _ _ _ _ _ rfl)
  have HLP := Lib.hid (show V3.heap.size ≤ PB by rw [HU.out.2]; exact Nat.le_refl _)
  have HL5 := Lib.hid (show Below V3.heap.size V3 U5 by rw [HU.out.1]; exact (Below.refl _ _).alloc (Nat.le_refl _) _)
  clear HU
  go_wp2
  have HLL := HNL.out
  go_loopw [7] (fun i wr => ∃ k : Nat, k ≤ N ∧ i = .int .i64 k ∧ Two wr PB (.int .i64 (lowP (prodL (us.take k)) (prodL (vs.take k))).1) (.int .i64 (lowP (prodL (us.take k)) (prodL (vs.take k))).2) 23 ∧ Below V3.heap.size V3 wr) (fun i _ => N - (intOf i).toNat)
  case atStart =>
    have e0 : lowP (prodL (us.take 0)) (prodL (vs.take 0)) = (1, 1) := lowP_one (a := 1) (by omega)
    exact ⟨0, Nat.zero_le _, rfl, by rw [e0]; exact TPB.out, HL5.out⟩
  case round =>
    clear TPB HL5
    obtain ⟨k, hk, rfl, hP, hbr⟩ := hrel
    have RN := Lib.hid (SN3.out.below hbr SN3.out.lt)
    have RQ := Lib.hid (SQ3.out.below hbr SQ3.out.lt)
    have I1 := Lib.hid (K1.out.below hbr)
    have I2 := Lib.hid (K2.out.below hbr)
    have HBV := Lib.hid hbr
    have HBR := Lib.hid (HW3'.out.trans (hbr.mono HW3'.out.size))
    have HP := Lib.hid hP
    clear hbr hP
    by_cases hlt : k < N
    · have hk1 : k < us.length := by rw [HLL.1]; exact hlt
      have hk2 : k < vs.length := by rw [HLL.2.1]; exact hlt
      have ho := train_one HTT.out hk1 hk2
      have hnx := train_next HTT.out hk1 hk2
      have hcm := gmul_w (train_part HTT.out k) (train_full ho) hnx (train_part HTT.out (k + 1)) (w := w)
      have hx1 := I1.out.one hk1
      have hx2 := I2.out.one hk2
      have cro := ratio_w (a1 := ⟨b1, o1 + k, none⟩) (a2 := ⟨b2, o2 + k, none⟩) (c1 := c1 - k) (c2 := c2 - k) (xs := [us[k]]) (ys := [vs[k]]) (n1 := 1) (n2 := 1) rfl rfl (by omega) (by omega) (if_pos ho) (w := w)
      have HX1 := Lib.hid hx1
      have HX2 := Lib.hid hx2
      clear hx1 hx2 ho hnx
      generalize [us[k]] = u1 at *
      generalize [vs[k]] = v1 at *
      obtain ⟨on, hon⟩ : ∃ on, on = (ratP u1 v1).1 := ⟨_, rfl⟩
      obtain ⟨od, hod⟩ : ∃ od, od = (ratP u1 v1).2 := ⟨_, rfl⟩
      rw [← hon, ← hod] at cro hcm
      clear hon hod
      obtain ⟨pn, hpn⟩ : ∃ pn, pn = (lowP (prodL (us.take k)) (prodL (vs.take k))).1 := ⟨_, rfl⟩
      obtain ⟨pd, hpd⟩ : ∃ pd, pd = (lowP (prodL (us.take k)) (prodL (vs.take k))).2 := ⟨_, rfl⟩
      obtain ⟨qn, hqn⟩ : ∃ qn, qn = (lowP (prodL (us.take (k + 1))) (prodL (vs.take (k + 1)))).1 := ⟨_, rfl⟩
      obtain ⟨qd, hqd⟩ : ∃ qd, qd = (lowP (prodL (us.take (k + 1))) (prodL (vs.take (k + 1)))).2 := ⟨_, rfl⟩
      rw [← hpn, ← hpd] at HP hcm
      rw [← hqn, ← hqd] at hcm
      have HQE := Lib.hid (show qn = (lowP (prodL (us.take (k + 1))) (prodL (vs.take (k + 1)))).1 ∧ qd = (lowP (prodL (us.take (k + 1))) (prodL (vs.take (k + 1)))).2 from ⟨hqn, hqd⟩)
      clear hpn hpd hqn hqd hk1 hk2
      have kc1 : k ≤ c1 := by omega
      have kc2 : k ≤ c2 := by omega
      have wk : IntKind.i64.wrap ((k : Int) + 1) = (k : Int) + 1 := IntWalk.i64_in _ (by omega)
      have q1 : (0 : Int) ≤ (k : Int) := by omega
      have q2 : (k : Int) ≤ (k : Int) + 1 := by omega
      have q3 : (k : Int) + 1 ≤ (c1 : Int) := by omega
      have q4 : (k : Int) + 1 ≤ (c2 : Int) := by omega
      have q5 : ((k : Int) + 1).toNat = k + 1 := by omega
      have q6 : ((k : Int)).toNat = k := by omega
      have q7 : ¬ c1 = k := by omega
      have q8 : ¬ c2 = k := by omega
      have q9 : k + 1 - k = 1 := by omega
      have t0 := RN.out.cell0
      have hkN : (k : Int) < (N : Int) := by omega
      go_upto_region 9 with fail
      clear t0
      refine Lex.wp_region_mix (fun w' => Two w' NB (.slice (some ⟨b1, o1, none⟩) N c1) (.slice (some ⟨b2, o2, none⟩) N c2) 54 ∧ Two w' PB (.int .i64 pn) (.int .i64 pd) 23)
        [(0, 44), (1, 45), (2, 46), (3, 47), (4, 48), (5, 49), (6, 50), (7, 51), (8, 52), (9, 53), (10, 54), (11, 55), (12, 56), (13, 57), (14, 43), (15, 58), (16, 59), (17, 8)] (fun j => j == 0 || j == 1 || j == 2 || j == 3 || j == 4 || j == 5 || j == 6 || j == 7 || j == 8 || j == 9 || j == 10 || j == 11 || j == 12 || j == 14 || j == 15 || j == 16) (fun j => j == 17) [(18, false), (19, false)]
        (fun i v w' => match i with | 0 => v = .pointer (some ⟨NB, 0, none⟩) | 1 => v = .slice (some ⟨b1, o1, none⟩) N c1 | 2 => v = .int .i64 (k : Nat) | 3 => v = .int .i64 (k : Nat) | 4 => v = .int .i64 ((k : Int) + 1) | 5 => v = .slice (some ⟨b1, o1 + k, none⟩) 1 (c1 - k) | 6 => v = .pointer (some ⟨NB, 1, none⟩) | 7 => v = .slice (some ⟨b2, o2, none⟩) N c2 | 8 => v = .int .i64 (k : Nat) | 9 => v = .int .i64 (k : Nat) | 10 => v = .int .i64 ((k : Int) + 1) | 11 => v = .slice (some ⟨b2, o2 + k, none⟩) 1 (c2 - k) | 12 => v = .agg #[.slice (some ⟨b1, o1 + k, none⟩) 1 (c1 - k), .slice (some ⟨b2, o2 + k, none⟩) 1 (c2 - k)] | 13 => v = .tuple #[.agg #[.int .i64 on, .int .i64 od], .int .i64 0] | 14 => v = .tuple #[.agg #[.int .i64 on, .int .i64 od], .int .i64 0] | 15 => v = .agg #[.int .i64 on, .int .i64 od] | 16 => v = .int .i64 0 | 17 => ∃ B, v = .pointer (some ⟨B, 0, none⟩) ∧ wr.heap.size ≤ B ∧ Two w' B (.int .i64 0) (.int .i64 0) 23 | _ => False)
        (by kernel_rfl) (by kernel_rfl) (by kernel_rfl) ⟨RN.out, HP.out⟩ (fun w1 w2 hS hb => ⟨hS.1.below hb hS.1.lt, hS.2.below hb hS.2.lt⟩) ?_ ?_ ?_
      · refine Lex.all_cons ?_ (Lex.all_cons ?_ (Lex.all_cons ?_ (Lex.all_cons ?_ (Lex.all_cons ?_ (Lex.all_cons ?_ (Lex.all_cons ?_ (Lex.all_cons ?_ (Lex.all_cons ?_ (Lex.all_cons ?_ (Lex.all_cons ?_ (Lex.all_cons ?_ (Lex.all_cons ?_ (Lex.all_cons ?_ (Lex.all_cons ?_ (Lex.all_cons ?_ (Lex.all_cons ?_ (Lex.all_cons ?_ (Lex.all_nil))))))))))))))))))
        · exact fun v w1 w2 h _ => h
        · exact fun v w1 w2 h _ => h
        · exact fun v w1 w2 h _ => h
        · exact fun v w1 w2 h _ => h
        · exact fun v w1 w2 h _ => h
        · exact fun v w1 w2 h _ => h
        · exact fun v w1 w2 h _ => h
        · exact fun v w1 w2 h _ => h
        · exact fun v w1 w2 h _ => h
        · exact fun v w1 w2 h _ => h
        · exact fun v w1 w2 h _ => h
        · exact fun v w1 w2 h _ => h
        · exact fun v w1 w2 h _ => h
        · exact fun v w1 w2 h _ => h
        · exact fun v w1 w2 h _ => h
        · exact fun v w1 w2 h _ => h
        · exact fun v w1 w2 h _ => h
        · exact fun v w1 w2 ⟨B, hv, hl, hT⟩ hb => ⟨B, hv, hl, hT.below hb hT.lt⟩
      · refine Lex.all_cons ?_ (Lex.all_cons ?_ (Lex.all_cons ?_ (Lex.all_cons ?_ (Lex.all_cons ?_ (Lex.all_cons ?_ (Lex.all_cons ?_ (Lex.all_cons ?_ (Lex.all_cons ?_ (Lex.all_cons ?_ (Lex.all_cons ?_ (Lex.all_cons ?_ (Lex.all_cons ?_ (Lex.all_cons ?_ (Lex.all_cons ?_ (Lex.all_cons ?_ (Lex.all_cons ?_ (Lex.all_cons ?_ (Lex.all_nil))))))))))))))))))
        · refine Lex.ob_eager rfl rfl (fun σ w1 hS hB hg => ⟨.pointer (some ⟨NB, 0, none⟩), rfl, fun w2 hS => ?_, rfl⟩)
          clear hg
          simp only [Lex.full, Act.put, List.setIfInBounds_toArray, List.set_cons_zero, List.set_cons_succ]
          have f0_0 := hS.1.cell0
          have f0_1 := hS.1.cell1
          have f1_0 := hS.2.cell0
          have f1_1 := hS.2.cell1
          clear hS
          go_simp
          all_goals with_reducible rfl
        · refine Lex.ob_eager rfl rfl (fun σ w1 hS hB hg => ⟨.slice (some ⟨b1, o1, none⟩) N c1, rfl, fun w2 hS => ?_, rfl⟩)
          have g0 : (σ 0) = .pointer (some ⟨NB, 0, none⟩) := hg (0, 44) (by simp) (by kernel_rfl)
          clear hg
          simp only [Lex.full, Act.put, List.setIfInBounds_toArray, List.set_cons_zero, List.set_cons_succ]
          have f0_0 := hS.1.cell0
          have f0_1 := hS.1.cell1
          have f1_0 := hS.2.cell0
          have f1_1 := hS.2.cell1
          clear hS
          simp only [g0]
          go_simp
          all_goals with_reducible rfl
        · refine Lex.ob_eager rfl rfl (fun σ w1 hS hB hg => ⟨.int .i64 (k : Nat), rfl, fun w2 hS => ?_, rfl⟩)
          clear hg
          simp only [Lex.full, Act.put, List.setIfInBounds_toArray, List.set_cons_zero, List.set_cons_succ]
          have f0_0 := hS.1.cell0
          have f0_1 := hS.1.cell1
          have f1_0 := hS.2.cell0
          have f1_1 := hS.2.cell1
          clear hS
          go_simp
          all_goals with_reducible rfl
        · refine Lex.ob_eager rfl rfl (fun σ w1 hS hB hg => ⟨.int .i64 (k : Nat), rfl, fun w2 hS => ?_, rfl⟩)
          clear hg
          simp only [Lex.full, Act.put, List.setIfInBounds_toArray, List.set_cons_zero, List.set_cons_succ]
          have f0_0 := hS.1.cell0
          have f0_1 := hS.1.cell1
          have f1_0 := hS.2.cell0
          have f1_1 := hS.2.cell1
          clear hS
          go_simp
          all_goals with_reducible rfl
        · refine Lex.ob_eager rfl rfl (fun σ w1 hS hB hg => ⟨.int .i64 ((k : Int) + 1), rfl, fun w2 hS => ?_, rfl⟩)
          have g3 : (σ 3) = .int .i64 (k : Nat) := hg (3, 47) (by simp) (by kernel_rfl)
          clear hg
          simp only [Lex.full, Act.put, List.setIfInBounds_toArray, List.set_cons_zero, List.set_cons_succ]
          have f0_0 := hS.1.cell0
          have f0_1 := hS.1.cell1
          have f1_0 := hS.2.cell0
          have f1_1 := hS.2.cell1
          clear hS
          simp only [g3]
          go_simp
          all_goals with_reducible rfl
        · refine Lex.ob_eager rfl rfl (fun σ w1 hS hB hg => ⟨.slice (some ⟨b1, o1 + k, none⟩) 1 (c1 - k), rfl, fun w2 hS => ?_, rfl⟩)
          have g1 : (σ 1) = .slice (some ⟨b1, o1, none⟩) N c1 := hg (1, 45) (by simp) (by kernel_rfl)
          have g2 : (σ 2) = .int .i64 (k : Nat) := hg (2, 46) (by simp) (by kernel_rfl)
          have g4 : (σ 4) = .int .i64 ((k : Int) + 1) := hg (4, 48) (by simp) (by kernel_rfl)
          clear hg
          simp only [Lex.full, Act.put, List.setIfInBounds_toArray, List.set_cons_zero, List.set_cons_succ]
          have f0_0 := hS.1.cell0
          have f0_1 := hS.1.cell1
          have f1_0 := hS.2.cell0
          have f1_1 := hS.2.cell1
          clear hS
          simp only [g1, g2, g4]
          go_simp
          all_goals with_reducible rfl
        · refine Lex.ob_eager rfl rfl (fun σ w1 hS hB hg => ⟨.pointer (some ⟨NB, 1, none⟩), rfl, fun w2 hS => ?_, rfl⟩)
          clear hg
          simp only [Lex.full, Act.put, List.setIfInBounds_toArray, List.set_cons_zero, List.set_cons_succ]
          have f0_0 := hS.1.cell0
          have f0_1 := hS.1.cell1
          have f1_0 := hS.2.cell0
          have f1_1 := hS.2.cell1
          clear hS
          go_simp
          all_goals with_reducible rfl
        · refine Lex.ob_eager rfl rfl (fun σ w1 hS hB hg => ⟨.slice (some ⟨b2, o2, none⟩) N c2, rfl, fun w2 hS => ?_, rfl⟩)
          have g6 : (σ 6) = .pointer (some ⟨NB, 1, none⟩) := hg (6, 50) (by simp) (by kernel_rfl)
          clear hg
          simp only [Lex.full, Act.put, List.setIfInBounds_toArray, List.set_cons_zero, List.set_cons_succ]
          have f0_0 := hS.1.cell0
          have f0_1 := hS.1.cell1
          have f1_0 := hS.2.cell0
          have f1_1 := hS.2.cell1
          clear hS
          simp only [g6]
          go_simp
          all_goals with_reducible rfl
        · refine Lex.ob_eager rfl rfl (fun σ w1 hS hB hg => ⟨.int .i64 (k : Nat), rfl, fun w2 hS => ?_, rfl⟩)
          clear hg
          simp only [Lex.full, Act.put, List.setIfInBounds_toArray, List.set_cons_zero, List.set_cons_succ]
          have f0_0 := hS.1.cell0
          have f0_1 := hS.1.cell1
          have f1_0 := hS.2.cell0
          have f1_1 := hS.2.cell1
          clear hS
          go_simp
          all_goals with_reducible rfl
        · refine Lex.ob_eager rfl rfl (fun σ w1 hS hB hg => ⟨.int .i64 (k : Nat), rfl, fun w2 hS => ?_, rfl⟩)
          clear hg
          simp only [Lex.full, Act.put, List.setIfInBounds_toArray, List.set_cons_zero, List.set_cons_succ]
          have f0_0 := hS.1.cell0
          have f0_1 := hS.1.cell1
          have f1_0 := hS.2.cell0
          have f1_1 := hS.2.cell1
          clear hS
          go_simp
          all_goals with_reducible rfl
        · refine Lex.ob_eager rfl rfl (fun σ w1 hS hB hg => ⟨.int .i64 ((k : Int) + 1), rfl, fun w2 hS => ?_, rfl⟩)
          have g9 : (σ 9) = .int .i64 (k : Nat) := hg (9, 53) (by simp) (by kernel_rfl)
          clear hg
          simp only [Lex.full, Act.put, List.setIfInBounds_toArray, List.set_cons_zero, List.set_cons_succ]
          have f0_0 := hS.1.cell0
          have f0_1 := hS.1.cell1
          have f1_0 := hS.2.cell0
          have f1_1 := hS.2.cell1
          clear hS
          simp only [g9]
          go_simp
          all_goals with_reducible rfl
        · refine Lex.ob_eager rfl rfl (fun σ w1 hS hB hg => ⟨.slice (some ⟨b2, o2 + k, none⟩) 1 (c2 - k), rfl, fun w2 hS => ?_, rfl⟩)
          have g7 : (σ 7) = .slice (some ⟨b2, o2, none⟩) N c2 := hg (7, 51) (by simp) (by kernel_rfl)
          have g8 : (σ 8) = .int .i64 (k : Nat) := hg (8, 52) (by simp) (by kernel_rfl)
          have g10 : (σ 10) = .int .i64 ((k : Int) + 1) := hg (10, 54) (by simp) (by kernel_rfl)
          clear hg
          simp only [Lex.full, Act.put, List.setIfInBounds_toArray, List.set_cons_zero, List.set_cons_succ]
          have f0_0 := hS.1.cell0
          have f0_1 := hS.1.cell1
          have f1_0 := hS.2.cell0
          have f1_1 := hS.2.cell1
          clear hS
          simp only [g7, g8, g10]
          go_simp
          all_goals with_reducible rfl
        · refine Lex.ob_eager rfl rfl (fun σ w1 hS hB hg => ⟨.agg #[.slice (some ⟨b1, o1 + k, none⟩) 1 (c1 - k), .slice (some ⟨b2, o2 + k, none⟩) 1 (c2 - k)], rfl, fun w2 hS => ?_, rfl⟩)
          have g5 : (σ 5) = .slice (some ⟨b1, o1 + k, none⟩) 1 (c1 - k) := hg (5, 49) (by simp) (by kernel_rfl)
          have g11 : (σ 11) = .slice (some ⟨b2, o2 + k, none⟩) 1 (c2 - k) := hg (11, 55) (by simp) (by kernel_rfl)
          clear hg
          simp only [Lex.full, Act.put, List.setIfInBounds_toArray, List.set_cons_zero, List.set_cons_succ]
          have f0_0 := hS.1.cell0
          have f0_1 := hS.1.cell1
          have f1_0 := hS.2.cell0
          have f1_1 := hS.2.cell1
          clear hS
          simp only [g5, g11]
          go_simp
          all_goals with_reducible rfl
        · refine Lex.ob_step rfl rfl rfl (fun σ w1 hS hB hg K hK => ?_)
          have HK := Lib.hid hK
          clear hK
          have g12 : (σ 12) = .agg #[.slice (some ⟨b1, o1 + k, none⟩) 1 (c1 - k), .slice (some ⟨b2, o2 + k, none⟩) 1 (c2 - k)] := hg (12, 56) (by simp) (by kernel_rfl)
          clear hg
          have hbw : Below wr.heap.size wr w1 := ⟨hB.os, hB.tape, hB.output, hB.size, hB.block⟩
          simp only [Lex.full, Act.put, List.setIfInBounds_toArray, List.set_cons_zero, List.set_cons_succ]
          simp only [g12]
          have hw1 : Below w.heap.size w w1 := HBR.out.drew.trans (hB.mono HBR.out.size)
          have cc := cro w1 hw1 (HX1.out.below hbw) (HX2.out.below hbw)
          go_wp2_with fail
          refine cc.mono ?_
          rintro e w2 ⟨v1, rfl, rfl, hn⟩
          clear cc
          go_wp2_with fail
          exact HK.out _ _ ⟨rfl, hn, rfl, fun h => nomatch h⟩
        · refine Lex.ob_eager rfl rfl (fun σ w1 hS hB hg => ⟨.tuple #[.agg #[.int .i64 on, .int .i64 od], .int .i64 0], rfl, fun w2 hS => ?_, rfl⟩)
          have g13 : (σ 13) = .tuple #[.agg #[.int .i64 on, .int .i64 od], .int .i64 0] := hg (13, 57) (by simp) (by kernel_rfl)
          clear hg
          simp only [Lex.full, Act.put, List.setIfInBounds_toArray, List.set_cons_zero, List.set_cons_succ]
          have f0_0 := hS.1.cell0
          have f0_1 := hS.1.cell1
          have f1_0 := hS.2.cell0
          have f1_1 := hS.2.cell1
          clear hS
          simp only [g13]
          go_simp
          all_goals with_reducible rfl
        · refine Lex.ob_eager rfl rfl (fun σ w1 hS hB hg => ⟨.agg #[.int .i64 on, .int .i64 od], rfl, fun w2 hS => ?_, rfl⟩)
          have g14 : (σ 14) = .tuple #[.agg #[.int .i64 on, .int .i64 od], .int .i64 0] := hg (14, 43) (by simp) (by kernel_rfl)
          clear hg
          simp only [Lex.full, Act.put, List.setIfInBounds_toArray, List.set_cons_zero, List.set_cons_succ]
          have f0_0 := hS.1.cell0
          have f0_1 := hS.1.cell1
          have f1_0 := hS.2.cell0
          have f1_1 := hS.2.cell1
          clear hS
          simp only [g14]
          go_simp
          all_goals with_reducible rfl
        · refine Lex.ob_eager rfl rfl (fun σ w1 hS hB hg => ⟨.int .i64 0, rfl, fun w2 hS => ?_, rfl⟩)
          have g14 : (σ 14) = .tuple #[.agg #[.int .i64 on, .int .i64 od], .int .i64 0] := hg (14, 43) (by simp) (by kernel_rfl)
          clear hg
          simp only [Lex.full, Act.put, List.setIfInBounds_toArray, List.set_cons_zero, List.set_cons_succ]
          have f0_0 := hS.1.cell0
          have f0_1 := hS.1.cell1
          have f1_0 := hS.2.cell0
          have f1_1 := hS.2.cell1
          clear hS
          simp only [g14]
          go_simp
          all_goals with_reducible rfl
        · refine Lex.ob_step rfl rfl rfl (fun σ w1 hS hB hg K hK => ?_)
          have HK := Lib.hid hK
          clear hK
          clear hg
          simp only [Lex.full, Act.put, List.setIfInBounds_toArray, List.set_cons_zero, List.set_cons_succ]
          go_wp2_with fail
          refine HK.out _ _ ⟨rfl, (Below.refl _ _).alloc (Nat.le_refl _) _, ⟨w1.heap.size, rfl, show wr.heap.size ≤ _ from hB.size, Two.newAt _ _ _ _ _ rfl⟩, fun _ => ?_⟩
          refine Lex.all_cons ?_ (Lex.all_cons ?_ (Lex.all_cons ?_ (Lex.all_cons ?_ (Lex.all_cons ?_ (Lex.all_cons ?_ (Lex.all_cons ?_ (Lex.all_cons ?_ (Lex.all_cons ?_ (Lex.all_cons ?_ (Lex.all_cons ?_ (Lex.all_cons ?_ (Lex.all_cons ?_ (Lex.all_cons ?_ (Lex.all_cons ?_ (Lex.all_cons ?_ (Lex.all_cons ?_ (Lex.all_cons ?_ (Lex.all_nil))))))))))))))))))
          · intro u h; cases h
          · intro u h; cases h
          · intro u h; cases h
          · intro u h; cases h
          · intro u h; cases h
          · intro u h; cases h
          · intro u h; cases h
          · intro u h; cases h
          · intro u h; cases h
          · intro u h; cases h
          · intro u h; cases h
          · intro u h; cases h
          · intro u h; cases h
          · intro u h; cases h
          · intro u h; cases h
          · intro u h; cases h
          · intro u h; cases h
          · rintro u _ ⟨B, rfl, _, hT⟩ he; have := hT.lt; have he : Value.pointer (some ⟨B, 0, none⟩) = .pointer (some ⟨w1.heap.size, 0, none⟩) := he; injection he with he; injection he with he; injection he with he; omega
      · intro σ V hS hB hg hd
        have e0 : (σ 0) = .pointer (some ⟨NB, 0, none⟩) := hg (0, 44) (by simp)
        have e1 : (σ 1) = .slice (some ⟨b1, o1, none⟩) N c1 := hg (1, 45) (by simp)
        have e2 : (σ 2) = .int .i64 (k : Nat) := hg (2, 46) (by simp)
        have e3 : (σ 3) = .int .i64 (k : Nat) := hg (3, 47) (by simp)
        have e4 : (σ 4) = .int .i64 ((k : Int) + 1) := hg (4, 48) (by simp)
        have e5 : (σ 5) = .slice (some ⟨b1, o1 + k, none⟩) 1 (c1 - k) := hg (5, 49) (by simp)
        have e6 : (σ 6) = .pointer (some ⟨NB, 1, none⟩) := hg (6, 50) (by simp)
        have e7 : (σ 7) = .slice (some ⟨b2, o2, none⟩) N c2 := hg (7, 51) (by simp)
        have e8 : (σ 8) = .int .i64 (k : Nat) := hg (8, 52) (by simp)
        have e9 : (σ 9) = .int .i64 (k : Nat) := hg (9, 53) (by simp)
        have e10 : (σ 10) = .int .i64 ((k : Int) + 1) := hg (10, 54) (by simp)
        have e11 : (σ 11) = .slice (some ⟨b2, o2 + k, none⟩) 1 (c2 - k) := hg (11, 55) (by simp)
        have e12 : (σ 12) = .agg #[.slice (some ⟨b1, o1 + k, none⟩) 1 (c1 - k), .slice (some ⟨b2, o2 + k, none⟩) 1 (c2 - k)] := hg (12, 56) (by simp)
        have e13 : (σ 13) = .tuple #[.agg #[.int .i64 on, .int .i64 od], .int .i64 0] := hg (13, 57) (by simp)
        have e14 : (σ 14) = .tuple #[.agg #[.int .i64 on, .int .i64 od], .int .i64 0] := hg (14, 43) (by simp)
        have e15 : (σ 15) = .agg #[.int .i64 on, .int .i64 od] := hg (15, 58) (by simp)
        have e16 : (σ 16) = .int .i64 0 := hg (16, 59) (by simp)
        have e17 : ∃ B, (σ 17) = .pointer (some ⟨B, 0, none⟩) ∧ wr.heap.size ≤ B ∧ Two V B (.int .i64 0) (.int .i64 0) 23 := hg (17, 8) (by simp)
        clear hg hd
        simp only [Lex.full, Act.put, List.setIfInBounds_toArray, List.set_cons_zero, List.set_cons_succ]
        generalize σ 0 = s0 at *
        generalize σ 1 = s1 at *
        generalize σ 2 = s2 at *
        generalize σ 3 = s3 at *
        generalize σ 4 = s4 at *
        generalize σ 5 = s5 at *
        generalize σ 6 = s6 at *
        generalize σ 7 = s7 at *
        generalize σ 8 = s8 at *
        generalize σ 9 = s9 at *
        generalize σ 10 = s10 at *
        generalize σ 11 = s11 at *
        generalize σ 12 = s12 at *
        generalize σ 13 = s13 at *
        generalize σ 14 = s14 at *
        generalize σ 15 = s15 at *
        generalize σ 16 = s16 at *
        generalize σ 17 = s17 at *
        clear σ
        subst e0
        subst e1
        subst e2
        subst e3
        subst e4
        subst e5
        subst e6
        subst e7
        subst e8
        subst e9
        subst e10
        subst e11
        subst e12
        subst e13
        subst e14
        subst e15
        subst e16
        obtain ⟨B17, rfl, l17, T17⟩ := e17
        have HT17 := Lib.hid T17
        clear T17
        have HBm := Lib.hid (show Below w.heap.size w V from HBR.out.drew.trans (hB.mono HBR.out.size))
        have HBb := Lib.hid (show Below wr.heap.size wr V from ⟨hB.os, hB.tape, hB.output, hB.size, hB.block⟩)
        have HSm := Lib.hid hS
        clear hB hS
        have lN := RN.out.lt
        have lP := HP.out.lt
        have lR := HBV.out.size
        have lV := HBm.out.size
        have lW := HW3'.out.size
        have lQ := RQ.out.lt
        refine Lex.lex_do rfl ?_
        have r0 := HT17.out.cell0
        have g0 := HT17.out.free 0
        have r1 := HT17.out.cell1
        have g1 := HT17.out.free 1
        obtain ⟨V5, hV5⟩ : ∃ V5, V5 = (V.setCell ⟨B17, 0, none⟩ (.int .i64 on)).setCell ⟨B17, 1, none⟩ (.int .i64 od) := ⟨_, rfl⟩
        have HV5 := Lib.hid hV5
        clear hV5
        go_wp2_with fail
        rw [← HV5.out]
        clear r0 r1 g0 g1
        have ZN := Lib.hid (show Two V5 NB _ _ _ by rw [HV5.out]; exact (HSm.out.1.setOther ⟨B17, 0, none⟩ _ (by dsimp only; omega)).setOther ⟨B17, 1, none⟩ _ (by dsimp only; omega))
        have ZP := Lib.hid (show Two V5 PB _ _ _ by rw [HV5.out]; exact (HSm.out.2.setOther ⟨B17, 0, none⟩ _ (by dsimp only; omega)).setOther ⟨B17, 1, none⟩ _ (by dsimp only; omega))
        have ZO := Lib.hid (show Two V5 B17 _ _ _ by rw [HV5.out]; exact (HT17.out.set0 _).set1 _)
        have ZB := Lib.hid (show Below V3.heap.size V3 V5 by rw [HV5.out]; exact ((HBV.out.trans (HBb.out.mono HBV.out.size)).setCell (by dsimp only; omega) _).setCell (by dsimp only; omega) _)
        refine Lex.lexQ_normal (fun _ => ⟨ZN.out, ZP.out⟩) ?_
        refine Lex.lex_do rfl ?_
        go_wp2_with fail
        refine Lex.lexQ_normal (fun _ => ⟨ZN.out, ZP.out⟩) ?_
        refine Lex.lex_nil ?_
        have ZW := Lib.hid (HW3'.out.trans (ZB.out.mono HW3'.out.size))
        clear HV5 HSm HBm HBb HT17 cro HX1 HX2 I1 I2 RN HP
        have k0 := ZP.out.cell0
        have k1 := ZP.out.cell1
        have k2 := ZO.out.cell0
        have k3 := ZO.out.cell1
        have cc := hcm _ ZW.out
        go_wp2_with fail
        refine cc.mono ?_
        rintro e V6 ⟨v6, rfl, rfl, hn⟩
        clear cc hcm k0 k1 k2 k3
        obtain ⟨MB, hMB⟩ : ∃ MB, MB = V6.heap.size := ⟨_, rfl⟩
        obtain ⟨U6, hU6⟩ : ∃ U6, U6 = V6.alloc (.cells #[.int .i64 qn, .int .i64 qd] 23) := ⟨_, rfl⟩
        have HU := Lib.hid (show U6 = _ ∧ MB = _ from ⟨hU6, hMB⟩)
        clear hU6 hMB
        go_upto_region 11 with fail
        rw [← HU.out.2, ← HU.out.1]
        have hbX := hn.alloc hn.size (.cells #[.int .i64 qn, .int .i64 qd] 23)
        rw [← HU.out.1] at hbX
        have TMB := Lib.hid (show Two U6 MB (.int .i64 qn) (.int .i64 qd) 23 by rw [HU.out.1, HU.out.2]; exact Two.newAt _ _ _ _ _ rfl)
        have LMB := Lib.hid (show _ ≤ MB by rw [HU.out.2]; exact hn.size)
        have YP := Lib.hid (ZP.out.below hbX ZP.out.lt)
        have YW := Lib.hid (ZW.out.trans (hbX.mono ZW.out.size))
        have YB := Lib.hid (ZB.out.trans (hbX.mono ZB.out.size))
        clear HU hbX hn ZW ZN ZP ZO LMB ZB
        have k0 := TMB.out.cell0
        have k1 := TMB.out.cell1
        have r0 := YP.out.cell0
        have r1 := YP.out.cell1
        have g0 := YP.out.free 0
        have g1 := YP.out.free 1
        go_wp2
        go_roundw
        case rel =>
          refine ⟨k + 1, by omega, by go_num, ?_, ?_⟩
          · rw [← HQE.out.1, ← HQE.out.2]; exact (YP.out.set0 _).set1 _
          · exact (YB.out.setCell (by dsimp only; exact HLP.out) _).setCell (by dsimp only; exact HLP.out) _
        case measure => simp [intOf]; omega
    · obtain rfl : k = N := by omega
      have hpq : ((lowP (prodL (us.take k)) (prodL (vs.take k))).1, (lowP (prodL (us.take k)) (prodL (vs.take k))).2) = (rn, rd) := by
        rw [HR.out, List.take_of_length_le (by omega), List.take_of_length_le (by omega)]; rfl
      injection hpq with hp1 hp2
      rw [hp1, hp2] at HP
      have J1 := I1.out
      have J2 := I2.out
      have t0 := RN.out.cell0
      have t1 := RN.out.cell1
      clear hp1 hp2 HTT HR hlt
      have cc := crb ⟨b2, o2, none⟩ ⟨b1, o1, none⟩ c2 c1 _ HBR.out J2 J1
      go_wp2_with fail
      refine cc.mono ?_
      rintro e V6 ⟨v6, rfl, rfl, hn⟩
      clear cc crb t0 t1 J1 J2 I1 I2 HBV
      obtain ⟨KB, hKB⟩ : ∃ KB, KB = V6.heap.size := ⟨_, rfl⟩
      obtain ⟨U6, hU6⟩ : ∃ U6, U6 = V6.alloc (.cells #[.int .i64 bn, .int .i64 bd] 23) := ⟨_, rfl⟩
      have HU := Lib.hid (show U6 = _ ∧ KB = _ from ⟨hU6, hKB⟩)
      clear hU6 hKB
      go_upto_region 15 with fail
      rw [← HU.out.2, ← HU.out.1]
      have hbX := hn.alloc hn.size (.cells #[.int .i64 bn, .int .i64 bd] 23)
      rw [← HU.out.1] at hbX
      have TKB := Lib.hid (show Two U6 KB (.int .i64 bn) (.int .i64 bd) 23 by rw [HU.out.1, HU.out.2]; exact Two.newAt _ _ _ _ _ rfl)
      have LKB := Lib.hid (show _ ≤ KB by rw [HU.out.2]; exact hn.size)
      have YP := Lib.hid (HP.out.below hbX HP.out.lt)
      have YQ := Lib.hid (RQ.out.below hbX RQ.out.lt)
      have YW := Lib.hid (HBR.out.trans (hbX.mono HBR.out.size))
      clear HU hbX hn HBR HP RQ RN LKB
      have k0 := YQ.out.cell0
      have k1 := YQ.out.cell1
      have k2 := TKB.out.cell0
      have k3 := TKB.out.cell1
      have cc := cmb _ YW.out
      go_wp2_with fail
      refine cc.mono ?_
      rintro e V7 ⟨v7, rfl, rfl, hn⟩
      clear cc cmb k0 k1 k2 k3
      obtain ⟨EB, hEB⟩ : ∃ EB, EB = V7.heap.size := ⟨_, rfl⟩
      obtain ⟨U7, hU7⟩ : ∃ U7, U7 = V7.alloc (.cells #[.int .i64 1, .int .i64 1] 23) := ⟨_, rfl⟩
      have HU := Lib.hid (show U7 = _ ∧ EB = _ from ⟨hU7, hEB⟩)
      clear hU7 hEB
      go_upto_region 16 with fail
      rw [← HU.out.2, ← HU.out.1]
      have hbX := hn.alloc hn.size (.cells #[.int .i64 1, .int .i64 1] 23)
      rw [← HU.out.1] at hbX
      have TEB := Lib.hid (show Two U7 EB (.int .i64 1) (.int .i64 1) 23 by rw [HU.out.1, HU.out.2]; exact Two.newAt _ _ _ _ _ rfl)
      have LEB := Lib.hid (show _ ≤ EB by rw [HU.out.2]; exact hn.size)
      have XP := Lib.hid (YP.out.below hbX YP.out.lt)
      have XQ := Lib.hid (YQ.out.below hbX YQ.out.lt)
      have XW := Lib.hid (YW.out.trans (hbX.mono YW.out.size))
      clear HU hbX hn YW YP YQ LEB TKB
      have k0 := XP.out.cell0
      have k1 := XP.out.cell1
      have k2 := XQ.out.cell0
      have k3 := XQ.out.cell1
      have k4 := TEB.out.cell0
      have k5 := TEB.out.cell1
      have cc := cl _ XW.out
      go_wp2_with fail
      refine cc.mono ?_
      rintro e V8 ⟨v8, rfl, rfl, hn⟩
      have HE := Lib.hid (XW.out.trans (hn.mono XW.out.size))
      clear cc hn
      go_wp2
      go_ret
      exact ⟨rfl, HE.out⟩

theorem trains_all (A : Option Addr) (n c : Nat) (B : Option Addr) (m d : Nat) (xs ys : List Int) (w : World) (hx : Ints .i64 w A xs ∧ xs.length = n ∧ n ≤ c ∧ (A = none → c = 0) ∧ c ≤ 9223372036854775807) (hy : Ints .i64 w B ys ∧ ys.length = m ∧ m ≤ d ∧ (B = none → d = 0) ∧ d ≤ 9223372036854775807) :
    Calls Try.prog 11 #[.agg #[.slice A n c, .slice B m d]] w (RetV (.bool true) w) := by
  obtain ⟨x1, x2, x3, x4, x5⟩ := hx
  obtain ⟨y1, y2, y3, y4, y5⟩ := hy
  by_cases h : TrainOk (xs.take 8) (ys.take 8)
  · exact trains_good A n c B m d xs ys w x1 y1 x2 y2 x3 y3 x4 y4 x5 y5 h
  · exact trains_bad A n c B m d xs ys w x1 y1 x2 y2 x3 y3 x4 y4 x5 y5 h

end Go.Proofs.Ytklngjjokbhfpaa
