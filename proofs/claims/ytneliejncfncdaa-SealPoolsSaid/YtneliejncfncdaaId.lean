/- The law SealPools: the walk. -/
import Derived.Test.YtneliejncfncdaaIc
import Derived.Test.YtneliejncfncdaaGe
import Derived.Test.YtneliejncfncdaaGc
import Derived.Test.YtneliejncfncdaaHd
namespace Go.Proofs.Ytneliejncfncdaa
open Go.RowKit

/-- The box of the pools lies at B, in W. -/
structure Box (w : World) (q t n : Int) (W : World) : Prop where
  k0 : W.cell? ⟨w.heap.size, 0, none⟩ = some (.int .i64 q)
  k1 : W.cell? ⟨w.heap.size, 1, none⟩ = some (.int .i64 t)
  k2 : W.cell? ⟨w.heap.size, 2, none⟩ = some (.int .i64 n)
  lt : w.heap.size < W.heap.size
  below : Below w.heap.size w W
theorem Box.new (w : World) (q t n : Int) : Box w q t n (w.alloc (.cells #[.int .i64 q, .int .i64 t, .int .i64 n] 35)) :=
  ⟨by simp [go_sem], by simp [go_sem], by simp [go_sem], by simp, (Below.refl _ _).alloc (Nat.le_refl _) _⟩
theorem Box.step {w : World} {q t n : Int} {W W' : World} (h : Box w q t n W) (hb : Below W.heap.size W W') : Box w q t n W' :=
  ⟨(hb.cell h.lt).trans h.k0, (hb.cell h.lt).trans h.k1, (hb.cell h.lt).trans h.k2, Nat.lt_of_lt_of_le h.lt hb.size, h.below.trans (hb.mono (Nat.le_of_lt h.lt))⟩
theorem Box.drewN {w : World} {q t n : Int} {W : World} (h : Box w q t n W) (z : Nat) : Box w q t n (W.drewN z) := ⟨h.k0, h.k1, h.k2, h.lt, h.below.drewN z⟩
theorem SlI.lieA {w : World} {v : Value} {xs : List Int} (h : SlI w v xs) {n : Nat} (hn : xs.length = n) : ∃ A c, v = .slice A n c ∧ Ints w A xs := by
  subst hn
  obtain ⟨A, c, hv, _, _, _, h4⟩ := h
  exact ⟨A, c, hv, h4⟩
theorem Bools.drewN {w : World} {A : Option Addr} {xs : List Bool} (h : Bools w A xs) (n : Nat) : Bools (w.drewN n) A xs := h

section
variable (q t n item : Int) (A : Option Addr) (c m : Nat) (p l : List Int) (w : World)

set_option maxRecDepth 100000 in
set_option maxHeartbeats 1600000 in
theorem pools_bad (c17 : ∀ W, Ints W A p → Calls Try.prog 17 #[.slice A m c, .int .i64 30] W (RetInts l W)) (hA : Ints w A p) (hl : l.length ≤ 30) (h0 : itemsM q t n = 0) : Calls Try.prog 14 #[pools q t n, .int .i64 item, .slice A m c] w (Said true w) := by
  have c27 : ∀ W, Calls Try.prog 27 #[pools q t n, .int .i64 item] W (Ret2 [] 1 W) := fun W => by
    have := Members_any q t n item W
    have e : membersR q t n item = ([], 1) := by unfold membersR; rw [if_pos (by omega)]
    rwa [e] at this
  have c45 : ∀ W, Calls Try.prog 45 #[pools q t n, .int .i64 item] W fun e' w' => e' = .returned (.tuple #[.int .i64 0, .int .i64 1]) ∧ Below W.heap.size W w' := fun W => by
    have := Strength_any q t n item W
    have e : strR q t n item = (0, 1) := by unfold strR; rw [if_pos (.inl h0)]
    rwa [e] at this
  have c42 : ∀ W A c, Ints W A l → Calls Try.prog 42 #[pools q t n, .slice A l.length c] W (RetW [] 1 W) := fun W A c hI => Wet_bad q t n A c l.length l W hI rfl (by omega) (.inl h0)
  have c46 : ∀ W, Calls Try.prog 46 #[pools q t n] W (Said false W) := fun W => by
    have := refValid_any q t n W
    rwa [h0] at this
  have c47 : ∀ W, Calls Try.prog 47 #[pools q t n] W fun e w' => e = .returned (.int .i64 1) ∧ Below W.heap.size W w' := fun W => by
    have := Check_any q t n W
    rwa [if_pos h0] at this
  have hB := Box.new w q t n
  have hA0 := Ints.below hA ((Below.refl _ _).alloc (Nat.le_refl _) (.cells #[.int .i64 q, .int .i64 t, .int .i64 n] 35))
  clear h0
  go_enter Try.func14, Try.ntmps14
  go_wp2_with fail
  refine (c17 _ hA0).mono ?_
  rintro e w1 ⟨v1, rfl, hs1, hb1⟩
  obtain ⟨A1, c1, rfl, hI⟩ := hs1.lieA rfl
  have hB1 := hB.step hb1
  have k0 := hB1.k0
  have k1 := hB1.k1
  have k2 := hB1.k2
  go_wp2_with fail
  refine (c27 _).mono ?_
  rintro e w2 ⟨v2, rfl, hs2, hb2⟩
  obtain ⟨A2, c2, rfl, hL⟩ := hs2.lieA (n := 0) rfl
  have hB2 := hB1.step hb2
  have hI2 := Ints.below hI hb2
  clear k0 k1 k2
  have k0 := hB2.k0
  have k1 := hB2.k1
  have k2 := hB2.k2
  go_wp2_with fail
  refine (c45 _).mono ?_
  rintro e w3 ⟨rfl, hb3⟩
  have hB3 := hB2.step hb3
  have hI3 := Ints.below hI2 hb3
  clear k0 k1 k2
  have k0 := hB3.k0
  have k1 := hB3.k1
  have k2 := hB3.k2
  go_wp2_with fail
  refine (c42 _ _ _ hI3).mono ?_
  rintro e w4 ⟨A4, c4, rfl, hW, hb4⟩
  have hB4 := hB3.step hb4
  clear k0 k1 k2
  have k0 := hB4.k0
  have k1 := hB4.k1
  have k2 := hB4.k2
  go_wp2_with fail
  refine (c46 _).mono ?_
  rintro e w5 ⟨rfl, hb5⟩
  have hB5 := hB4.step hb5
  clear k0 k1 k2
  have k0 := hB5.k0
  have k1 := hB5.k1
  have k2 := hB5.k2
  go_wp2_with fail
  refine (c47 _).mono ?_
  rintro e w6 ⟨rfl, hb6⟩
  have hB6 := hB5.step hb6
  clear k0 k1 k2
  go_wp2_with fail
  refine (lives_any _).mono ?_
  rintro e w7 ⟨rfl, hb7⟩
  have hB7 := hB6.step hb7
  go_wp2
  go_ret
  exact ⟨rfl, hB7.below⟩

set_option maxRecDepth 100000 in
set_option maxHeartbeats 3200000 in
theorem pools_neg_n_r (c17 : ∀ W, Ints W A p → Calls Try.prog 17 #[.slice A m c, .int .i64 30] W (RetInts l W)) (hA : Ints w A p) (hl : l.length ≤ 30) (I : Int) (h0 : 0 < I) (hI : itemsM q t n = I) (hi : item < 0) (hr : rsB I (-1) l = true) : Calls Try.prog 14 #[pools q t n, .int .i64 item, .slice A m c] w (Said true w) := by
  have hv := items_valid (q := q) (t := t) (n := n) (by omega)
  obtain ⟨v1, v2, v3, v4, v5, v6, v7⟩ := hv
  have hpb := prime_bd v1
  obtain ⟨hp1, hp2⟩ := hpb
  have hIe : q ^ t.toNat = I := by omega
  have hI2 : I ≤ 1000 := by omega
  obtain ⟨tn, rfl⟩ : ∃ tn : Nat, t = tn := ⟨t.toNat, by omega⟩
  obtain ⟨nn, rfl⟩ : ∃ nn : Nat, n = nn := ⟨n.toNat, by omega⟩
  obtain ⟨N, hN⟩ : ∃ N, nn * q.toNat = N := ⟨_, rfl⟩
  have c27 : ∀ W, Calls Try.prog 27 #[pools q tn nn, .int .i64 item] W (Ret2 [] 1 W) := fun W => by
    have := Members_any q tn nn item W
    have e : membersR q tn nn item = ([], 1) := by unfold membersR; rw [if_pos (by omega)]
    rwa [e] at this
  have c45 : ∀ W, Calls Try.prog 45 #[pools q tn nn, .int .i64 item] W fun e' w' => e' = .returned (.tuple #[.int .i64 0, .int .i64 1]) ∧ Below W.heap.size W w' := fun W => by
    have := Strength_any q tn nn item W
    have e : strR q tn nn item = (0, 1) := by unfold strR; rw [if_pos (by omega)]
    rwa [e] at this
  have c42 : ∀ W A c, Ints W A l → Calls Try.prog 42 #[pools q tn nn, .slice A l.length c] W (RetW (wetM q tn nn l) 0 W) := fun W A c hJ => (Wet_good q I tn nn l.length N A c l W ⟨hp1, hp2⟩ (by omega) ⟨by omega, by omega⟩ hN hI ⟨h0, hI2⟩ hJ rfl (by omega) hr).mono fun e w' ⟨g, he, ho, hb⟩ => ⟨some ⟨g, 0, none⟩, N, by rw [he, wetM_length, hN], ho.bools, hb⟩
  have c46 : ∀ W, Calls Try.prog 46 #[pools q tn nn] W (Said true W) := fun W => by
    have := refValid_any q tn nn W
    rwa [decide_eq_true (by omega)] at this
  have c47 : ∀ W, Calls Try.prog 47 #[pools q tn nn] W fun e w' => e = .returned (.int .i64 0) ∧ Below W.heap.size W w' := fun W => by
    have := Check_any q tn nn W
    rwa [if_neg (by omega)] at this
  have c25 : ∀ W, Calls Try.prog 25 #[pools q tn nn] W fun e w' => e = .returned (.int .i64 I) ∧ Below W.heap.size W w' := fun W => (refItems_any q tn nn W ⟨hp1, hp2⟩ ⟨v2, by omega⟩).mono fun e w' ⟨J, he, hj, _, hb⟩ => ⟨by rw [he, hj (by omega), hIe], hb⟩
  have c28 : ∀ W A c, Ints W A l → Calls Try.prog 28 #[.slice A l.length c, .int .i64 I] W fun e w' => e = .returned (.bool true) ∧ ∃ z, w' = W.drewN z := fun W A c hJ => by
    have := refRising_any A c l.length l I W hJ rfl (by omega) ⟨by omega, by omega⟩
    rwa [hr] at this
  have hlw : (wetM q tn nn l).length = N := by rw [wetM_length, hN]
  have c51 : ∀ W A c, Ints W A l → Calls Try.prog 51 #[pools q tn nn, .slice A l.length c] W fun e w' => ∃ A c, e = .returned (.slice A N c) ∧ Bools w' A (wetM q tn nn l) ∧ Below W.heap.size W w' := fun W A c hJ => (refWet_any q I tn nn l.length N A c l W ⟨hp1, hp2⟩ (by omega) ⟨by omega, by omega⟩ hN (by omega) hJ rfl (by omega) hr).mono fun e w' ⟨g, he, ho, hb⟩ => ⟨some ⟨g, 0, none⟩, N, he, ho.bools, hb⟩
  have hNb : N ≤ 961 := by rw [← hN]; exact Nat.mul_le_mul (show nn ≤ 31 by omega) (show q.toNat ≤ 31 by omega)
  have c50 : ∀ (W : World) A B c d, Bools W A (wetM q tn nn l) → Bools W B (wetM q tn nn l) → Calls Try.prog 50 #[.slice A N c, .slice B N d] W fun e w' => e = .returned (.bool true) ∧ ∃ z, w' = W.drewN z := fun W A B c d h1 h2 => wets_same A B c d N _ W h1 h2 hlw (by omega)
  have hB := Box.new w q tn nn
  have hA0 := Ints.below hA ((Below.refl _ _).alloc (Nat.le_refl _) (.cells #[.int .i64 q, .int .i64 tn, .int .i64 nn] 35))
  clear hr hI v1 v6 v7 hIe hN
  generalize wetM q tn nn l = wl at *
  go_enter Try.func14, Try.ntmps14
  go_wp2_with fail
  refine (c17 _ hA0).mono ?_
  rintro e w1 ⟨v1, rfl, hs1, hb1⟩
  obtain ⟨A1, c1, rfl, hI⟩ := hs1.lieA rfl
  have hB1 := hB.step hb1
  have k0 := hB1.k0
  have k1 := hB1.k1
  have k2 := hB1.k2
  go_wp2_with fail
  refine (c27 _).mono ?_
  rintro e w2 ⟨v2, rfl, hs2, hb2⟩
  obtain ⟨A2, c2, rfl, hL⟩ := hs2.lieA (n := 0) rfl
  have hB2 := hB1.step hb2
  have hI2 := Ints.below hI hb2
  clear k0 k1 k2
  have k0 := hB2.k0
  have k1 := hB2.k1
  have k2 := hB2.k2
  go_wp2_with fail
  refine (c45 _).mono ?_
  rintro e w3 ⟨rfl, hb3⟩
  have hB3 := hB2.step hb3
  have hI3 := Ints.below hI2 hb3
  have hL3 := Ints.below hL hb3
  clear k0 k1 k2
  have k0 := hB3.k0
  have k1 := hB3.k1
  have k2 := hB3.k2
  go_wp2_with fail
  refine (c42 _ _ _ hI3).mono ?_
  rintro e w4 ⟨A4, c4, rfl, hW, hb4⟩
  have hB4 := hB3.step hb4
  have hI4 := Ints.below hI3 hb4
  have hL4 := Ints.below hL3 hb4
  clear k0 k1 k2
  have k0 := hB4.k0
  have k1 := hB4.k1
  have k2 := hB4.k2
  rw [hlw]
  go_wp2_with fail
  refine (c46 _).mono ?_
  rintro e w5 ⟨rfl, hb5⟩
  have hB5 := hB4.step hb5
  have hI5 := Ints.below hI4 hb5
  have hL5 := Ints.below hL4 hb5
  have hW5 := Bools.below hW hb5
  clear k0 k1 k2
  have k0 := hB5.k0
  have k1 := hB5.k1
  have k2 := hB5.k2
  go_wp2_with fail
  refine (c47 _).mono ?_
  rintro e w6 ⟨rfl, hb6⟩
  have hB6 := hB5.step hb6
  have hI6 := Ints.below hI5 hb6
  have hL6 := Ints.below hL5 hb6
  have hW6 := Bools.below hW5 hb6
  clear k0 k1 k2
  go_wp2_with fail
  refine (lives_any _).mono ?_
  rintro e w7 ⟨rfl, hb7⟩
  have hB7 := hB6.step hb7
  have hI7 := Ints.below hI6 hb7
  have hL7 := Ints.below hL6 hb7
  have hW7 := Bools.below hW6 hb7
  have k0 := hB7.k0
  have k1 := hB7.k1
  have k2 := hB7.k2
  go_wp2_with fail
  refine (c25 _).mono ?_
  rintro e w8 ⟨rfl, hb8⟩
  have hI8 := Ints.below hI7 hb8
  have hL8 := Ints.below hL7 hb8
  have hW8 := Bools.below hW7 hb8
  have hB8 := Box.step hB7 hb8
  clear k0 k1 k2
  have k0 := hB8.k0
  have k1 := hB8.k1
  have k2 := hB8.k2
  go_wp2_with fail
  refine (c28 _ _ _ hI8).mono ?_
  rintro e w9 ⟨rfl, z9, rfl⟩
  have hI9 := Ints.drewN hI8 z9
  have hL9 := Ints.drewN hL8 z9
  have hW9 := Bools.drewN hW8 z9
  have hB9 := Box.drewN hB8 z9
  clear k0 k1 k2
  have k0 := hB9.k0
  have k1 := hB9.k1
  have k2 := hB9.k2
  go_wp2_with fail
  refine (c51 _ _ _ hI9).mono ?_
  rintro e w10 ⟨A10, c10, rfl, hV, hb10⟩
  have hI10 := Ints.below hI9 hb10
  have hL10 := Ints.below hL9 hb10
  have hW10 := Bools.below hW9 hb10
  have hB10 := Box.step hB9 hb10
  clear k0 k1 k2
  have k0 := hB10.k0
  have k1 := hB10.k1
  have k2 := hB10.k2
  go_wp2_with fail
  refine (c50 _ _ _ _ _ hW10 hV).mono ?_
  rintro e w11 ⟨rfl, z11, rfl⟩
  have hI11 := Ints.drewN hI10 z11
  have hL11 := Ints.drewN hL10 z11
  have hW11 := Bools.drewN hW10 z11
  have hB11 := Box.drewN hB10 z11
  clear k0 k1 k2
  have k0 := hB11.k0
  have k1 := hB11.k1
  have k2 := hB11.k2
  clear k0 k1 k2
  go_wp2
  go_ret
  exact ⟨rfl, hB11.below⟩

set_option maxRecDepth 100000 in
set_option maxHeartbeats 3200000 in
theorem pools_neg_n_f (c17 : ∀ W, Ints W A p → Calls Try.prog 17 #[.slice A m c, .int .i64 30] W (RetInts l W)) (hA : Ints w A p) (hl : l.length ≤ 30) (I : Int) (h0 : 0 < I) (hI : itemsM q t n = I) (hi : item < 0) (hr : rsB I (-1) l = false) : Calls Try.prog 14 #[pools q t n, .int .i64 item, .slice A m c] w (Said true w) := by
  have hv := items_valid (q := q) (t := t) (n := n) (by omega)
  obtain ⟨v1, v2, v3, v4, v5, v6, v7⟩ := hv
  have hpb := prime_bd v1
  obtain ⟨hp1, hp2⟩ := hpb
  have hIe : q ^ t.toNat = I := by omega
  have hI2 : I ≤ 1000 := by omega
  obtain ⟨tn, rfl⟩ : ∃ tn : Nat, t = tn := ⟨t.toNat, by omega⟩
  obtain ⟨nn, rfl⟩ : ∃ nn : Nat, n = nn := ⟨n.toNat, by omega⟩
  obtain ⟨N, hN⟩ : ∃ N, nn * q.toNat = N := ⟨_, rfl⟩
  have c27 : ∀ W, Calls Try.prog 27 #[pools q tn nn, .int .i64 item] W (Ret2 [] 1 W) := fun W => by
    have := Members_any q tn nn item W
    have e : membersR q tn nn item = ([], 1) := by unfold membersR; rw [if_pos (by omega)]
    rwa [e] at this
  have c45 : ∀ W, Calls Try.prog 45 #[pools q tn nn, .int .i64 item] W fun e' w' => e' = .returned (.tuple #[.int .i64 0, .int .i64 1]) ∧ Below W.heap.size W w' := fun W => by
    have := Strength_any q tn nn item W
    have e : strR q tn nn item = (0, 1) := by unfold strR; rw [if_pos (by omega)]
    rwa [e] at this
  have c42 : ∀ W A c, Ints W A l → Calls Try.prog 42 #[pools q tn nn, .slice A l.length c] W (RetW [] 1 W) := fun W A c hJ => Wet_bad q tn nn A c l.length l W hJ rfl (by omega) (.inr (by rw [hI]; exact hr))
  have c46 : ∀ W, Calls Try.prog 46 #[pools q tn nn] W (Said true W) := fun W => by
    have := refValid_any q tn nn W
    rwa [decide_eq_true (by omega)] at this
  have c47 : ∀ W, Calls Try.prog 47 #[pools q tn nn] W fun e w' => e = .returned (.int .i64 0) ∧ Below W.heap.size W w' := fun W => by
    have := Check_any q tn nn W
    rwa [if_neg (by omega)] at this
  have c25 : ∀ W, Calls Try.prog 25 #[pools q tn nn] W fun e w' => e = .returned (.int .i64 I) ∧ Below W.heap.size W w' := fun W => (refItems_any q tn nn W ⟨hp1, hp2⟩ ⟨v2, by omega⟩).mono fun e w' ⟨J, he, hj, _, hb⟩ => ⟨by rw [he, hj (by omega), hIe], hb⟩
  have c28 : ∀ W A c, Ints W A l → Calls Try.prog 28 #[.slice A l.length c, .int .i64 I] W fun e w' => e = .returned (.bool false) ∧ ∃ z, w' = W.drewN z := fun W A c hJ => by
    have := refRising_any A c l.length l I W hJ rfl (by omega) ⟨by omega, by omega⟩
    rwa [hr] at this

  have hB := Box.new w q tn nn
  have hA0 := Ints.below hA ((Below.refl _ _).alloc (Nat.le_refl _) (.cells #[.int .i64 q, .int .i64 tn, .int .i64 nn] 35))
  clear hr hI v1 v6 v7 hIe hN

  go_enter Try.func14, Try.ntmps14
  go_wp2_with fail
  refine (c17 _ hA0).mono ?_
  rintro e w1 ⟨v1, rfl, hs1, hb1⟩
  obtain ⟨A1, c1, rfl, hI⟩ := hs1.lieA rfl
  have hB1 := hB.step hb1
  have k0 := hB1.k0
  have k1 := hB1.k1
  have k2 := hB1.k2
  go_wp2_with fail
  refine (c27 _).mono ?_
  rintro e w2 ⟨v2, rfl, hs2, hb2⟩
  obtain ⟨A2, c2, rfl, hL⟩ := hs2.lieA (n := 0) rfl
  have hB2 := hB1.step hb2
  have hI2 := Ints.below hI hb2
  clear k0 k1 k2
  have k0 := hB2.k0
  have k1 := hB2.k1
  have k2 := hB2.k2
  go_wp2_with fail
  refine (c45 _).mono ?_
  rintro e w3 ⟨rfl, hb3⟩
  have hB3 := hB2.step hb3
  have hI3 := Ints.below hI2 hb3
  have hL3 := Ints.below hL hb3
  clear k0 k1 k2
  have k0 := hB3.k0
  have k1 := hB3.k1
  have k2 := hB3.k2
  go_wp2_with fail
  refine (c42 _ _ _ hI3).mono ?_
  rintro e w4 ⟨A4, c4, rfl, hW, hb4⟩
  have hB4 := hB3.step hb4
  have hI4 := Ints.below hI3 hb4
  have hL4 := Ints.below hL3 hb4
  clear k0 k1 k2
  have k0 := hB4.k0
  have k1 := hB4.k1
  have k2 := hB4.k2

  go_wp2_with fail
  refine (c46 _).mono ?_
  rintro e w5 ⟨rfl, hb5⟩
  have hB5 := hB4.step hb5
  have hI5 := Ints.below hI4 hb5
  have hL5 := Ints.below hL4 hb5
  have hW5 := Bools.below hW hb5
  clear k0 k1 k2
  have k0 := hB5.k0
  have k1 := hB5.k1
  have k2 := hB5.k2
  go_wp2_with fail
  refine (c47 _).mono ?_
  rintro e w6 ⟨rfl, hb6⟩
  have hB6 := hB5.step hb6
  have hI6 := Ints.below hI5 hb6
  have hL6 := Ints.below hL5 hb6
  have hW6 := Bools.below hW5 hb6
  clear k0 k1 k2
  go_wp2_with fail
  refine (lives_any _).mono ?_
  rintro e w7 ⟨rfl, hb7⟩
  have hB7 := hB6.step hb7
  have hI7 := Ints.below hI6 hb7
  have hL7 := Ints.below hL6 hb7
  have hW7 := Bools.below hW6 hb7
  have k0 := hB7.k0
  have k1 := hB7.k1
  have k2 := hB7.k2
  go_wp2_with fail
  refine (c25 _).mono ?_
  rintro e w8 ⟨rfl, hb8⟩
  have hI8 := Ints.below hI7 hb8
  have hL8 := Ints.below hL7 hb8
  have hW8 := Bools.below hW7 hb8
  have hB8 := Box.step hB7 hb8
  clear k0 k1 k2
  have k0 := hB8.k0
  have k1 := hB8.k1
  have k2 := hB8.k2
  go_wp2_with fail
  refine (c28 _ _ _ hI8).mono ?_
  rintro e w9 ⟨rfl, z9, rfl⟩
  have hI9 := Ints.drewN hI8 z9
  have hL9 := Ints.drewN hL8 z9
  have hW9 := Bools.drewN hW8 z9
  have hB9 := Box.drewN hB8 z9
  clear k0 k1 k2
  have k0 := hB9.k0
  have k1 := hB9.k1
  have k2 := hB9.k2
  clear k0 k1 k2
  go_wp2
  go_ret
  exact ⟨rfl, hB9.below⟩

set_option maxRecDepth 100000 in
set_option maxHeartbeats 3200000 in
theorem pools_big_s_r (c17 : ∀ W, Ints W A p → Calls Try.prog 17 #[.slice A m c, .int .i64 30] W (RetInts l W)) (hA : Ints w A p) (hl : l.length ≤ 30) (I : Int) (h0 : 0 < I) (hI : itemsM q t n = I) (hi1 : 0 ≤ item) (hi : I ≤ item) (hs : item ≤ 100) (hr : rsB I (-1) l = true) : Calls Try.prog 14 #[pools q t n, .int .i64 item, .slice A m c] w (Said true w) := by
  have hv := items_valid (q := q) (t := t) (n := n) (by omega)
  obtain ⟨v1, v2, v3, v4, v5, v6, v7⟩ := hv
  have hpb := prime_bd v1
  obtain ⟨hp1, hp2⟩ := hpb
  have hIe : q ^ t.toNat = I := by omega
  have hI2 : I ≤ 1000 := by omega
  obtain ⟨tn, rfl⟩ : ∃ tn : Nat, t = tn := ⟨t.toNat, by omega⟩
  obtain ⟨nn, rfl⟩ : ∃ nn : Nat, n = nn := ⟨n.toNat, by omega⟩
  obtain ⟨N, hN⟩ : ∃ N, nn * q.toNat = N := ⟨_, rfl⟩
  have c27 : ∀ W, Calls Try.prog 27 #[pools q tn nn, .int .i64 item] W (Ret2 [] 1 W) := fun W => by
    have := Members_any q tn nn item W
    have e : membersR q tn nn item = ([], 1) := by unfold membersR; rw [if_pos (by omega)]
    rwa [e] at this
  have c45 : ∀ W, Calls Try.prog 45 #[pools q tn nn, .int .i64 item] W fun e' w' => e' = .returned (.tuple #[.int .i64 (strG I tn nn item), .int .i64 0]) ∧ Below W.heap.size W w' := fun W => by
    have := Strength_any q tn nn item W
    have e : strR q tn nn item = ((strG I tn nn item), 0) := by unfold strR; rw [if_neg (by omega), hI]
    rwa [e] at this
  have c42 : ∀ W A c, Ints W A l → Calls Try.prog 42 #[pools q tn nn, .slice A l.length c] W (RetW (wetM q tn nn l) 0 W) := fun W A c hJ => (Wet_good q I tn nn l.length N A c l W ⟨hp1, hp2⟩ (by omega) ⟨by omega, by omega⟩ hN hI ⟨h0, hI2⟩ hJ rfl (by omega) hr).mono fun e w' ⟨g, he, ho, hb⟩ => ⟨some ⟨g, 0, none⟩, N, by rw [he, wetM_length, hN], ho.bools, hb⟩
  have c46 : ∀ W, Calls Try.prog 46 #[pools q tn nn] W (Said true W) := fun W => by
    have := refValid_any q tn nn W
    rwa [decide_eq_true (by omega)] at this
  have c47 : ∀ W, Calls Try.prog 47 #[pools q tn nn] W fun e w' => e = .returned (.int .i64 0) ∧ Below W.heap.size W w' := fun W => by
    have := Check_any q tn nn W
    rwa [if_neg (by omega)] at this
  have c25 : ∀ W, Calls Try.prog 25 #[pools q tn nn] W fun e w' => e = .returned (.int .i64 I) ∧ Below W.heap.size W w' := fun W => (refItems_any q tn nn W ⟨hp1, hp2⟩ ⟨v2, by omega⟩).mono fun e w' ⟨J, he, hj, _, hb⟩ => ⟨by rw [he, hj (by omega), hIe], hb⟩
  have c28 : ∀ W A c, Ints W A l → Calls Try.prog 28 #[.slice A l.length c, .int .i64 I] W fun e w' => e = .returned (.bool true) ∧ ∃ z, w' = W.drewN z := fun W A c hJ => by
    have := refRising_any A c l.length l I W hJ rfl (by omega) ⟨by omega, by omega⟩
    rwa [hr] at this
  have c49 : ∀ W, Calls Try.prog 49 #[pools q tn nn, .int .i64 item] W fun e' w' => e' = .returned (.int .i64 (strG I tn nn item)) ∧ Below W.heap.size W w' := fun W => by
    have := refStrength_any q tn nn item W ⟨hp1, hp2⟩ ⟨v2, by omega⟩ ⟨v4, v5⟩ v6 ⟨by omega, by omega⟩
    rwa [hIe] at this
  have hlw : (wetM q tn nn l).length = N := by rw [wetM_length, hN]
  have c51 : ∀ W A c, Ints W A l → Calls Try.prog 51 #[pools q tn nn, .slice A l.length c] W fun e w' => ∃ A c, e = .returned (.slice A N c) ∧ Bools w' A (wetM q tn nn l) ∧ Below W.heap.size W w' := fun W A c hJ => (refWet_any q I tn nn l.length N A c l W ⟨hp1, hp2⟩ (by omega) ⟨by omega, by omega⟩ hN (by omega) hJ rfl (by omega) hr).mono fun e w' ⟨g, he, ho, hb⟩ => ⟨some ⟨g, 0, none⟩, N, he, ho.bools, hb⟩
  have hNb : N ≤ 961 := by rw [← hN]; exact Nat.mul_le_mul (show nn ≤ 31 by omega) (show q.toNat ≤ 31 by omega)
  have c50 : ∀ (W : World) A B c d, Bools W A (wetM q tn nn l) → Bools W B (wetM q tn nn l) → Calls Try.prog 50 #[.slice A N c, .slice B N d] W fun e w' => e = .returned (.bool true) ∧ ∃ z, w' = W.drewN z := fun W A B c d h1 h2 => wets_same A B c d N _ W h1 h2 hlw (by omega)
  have hB := Box.new w q tn nn
  have hA0 := Ints.below hA ((Below.refl _ _).alloc (Nat.le_refl _) (.cells #[.int .i64 q, .int .i64 tn, .int .i64 nn] 35))
  clear hr hI v1 v6 v7 hIe hN
  generalize strG I tn nn item = sn at *
  generalize wetM q tn nn l = wl at *
  go_enter Try.func14, Try.ntmps14
  go_wp2_with fail
  refine (c17 _ hA0).mono ?_
  rintro e w1 ⟨v1, rfl, hs1, hb1⟩
  obtain ⟨A1, c1, rfl, hI⟩ := hs1.lieA rfl
  have hB1 := hB.step hb1
  have k0 := hB1.k0
  have k1 := hB1.k1
  have k2 := hB1.k2
  go_wp2_with fail
  refine (c27 _).mono ?_
  rintro e w2 ⟨v2, rfl, hs2, hb2⟩
  obtain ⟨A2, c2, rfl, hL⟩ := hs2.lieA (n := 0) rfl
  have hB2 := hB1.step hb2
  have hI2 := Ints.below hI hb2
  clear k0 k1 k2
  have k0 := hB2.k0
  have k1 := hB2.k1
  have k2 := hB2.k2
  go_wp2_with fail
  refine (c45 _).mono ?_
  rintro e w3 ⟨rfl, hb3⟩
  have hB3 := hB2.step hb3
  have hI3 := Ints.below hI2 hb3
  have hL3 := Ints.below hL hb3
  clear k0 k1 k2
  have k0 := hB3.k0
  have k1 := hB3.k1
  have k2 := hB3.k2
  go_wp2_with fail
  refine (c42 _ _ _ hI3).mono ?_
  rintro e w4 ⟨A4, c4, rfl, hW, hb4⟩
  have hB4 := hB3.step hb4
  have hI4 := Ints.below hI3 hb4
  have hL4 := Ints.below hL3 hb4
  clear k0 k1 k2
  have k0 := hB4.k0
  have k1 := hB4.k1
  have k2 := hB4.k2
  rw [hlw]
  go_wp2_with fail
  refine (c46 _).mono ?_
  rintro e w5 ⟨rfl, hb5⟩
  have hB5 := hB4.step hb5
  have hI5 := Ints.below hI4 hb5
  have hL5 := Ints.below hL4 hb5
  have hW5 := Bools.below hW hb5
  clear k0 k1 k2
  have k0 := hB5.k0
  have k1 := hB5.k1
  have k2 := hB5.k2
  go_wp2_with fail
  refine (c47 _).mono ?_
  rintro e w6 ⟨rfl, hb6⟩
  have hB6 := hB5.step hb6
  have hI6 := Ints.below hI5 hb6
  have hL6 := Ints.below hL5 hb6
  have hW6 := Bools.below hW5 hb6
  clear k0 k1 k2
  go_wp2_with fail
  refine (lives_any _).mono ?_
  rintro e w7 ⟨rfl, hb7⟩
  have hB7 := hB6.step hb7
  have hI7 := Ints.below hI6 hb7
  have hL7 := Ints.below hL6 hb7
  have hW7 := Bools.below hW6 hb7
  have k0 := hB7.k0
  have k1 := hB7.k1
  have k2 := hB7.k2
  go_wp2_with fail
  refine (c25 _).mono ?_
  rintro e w8 ⟨rfl, hb8⟩
  have hI8 := Ints.below hI7 hb8
  have hL8 := Ints.below hL7 hb8
  have hW8 := Bools.below hW7 hb8
  have hB8 := Box.step hB7 hb8
  clear k0 k1 k2
  have k0 := hB8.k0
  have k1 := hB8.k1
  have k2 := hB8.k2
  go_wp2_with fail
  refine (c49 _).mono ?_
  rintro e w9 ⟨rfl, hb9⟩
  have hI9 := Ints.below hI8 hb9
  have hL9 := Ints.below hL8 hb9
  have hW9 := Bools.below hW8 hb9
  have hB9 := Box.step hB8 hb9
  clear k0 k1 k2
  have k0 := hB9.k0
  have k1 := hB9.k1
  have k2 := hB9.k2
  go_wp2_with fail
  refine (c25 _).mono ?_
  rintro e w10 ⟨rfl, hb10⟩
  have hI10 := Ints.below hI9 hb10
  have hL10 := Ints.below hL9 hb10
  have hW10 := Bools.below hW9 hb10
  have hB10 := Box.step hB9 hb10
  clear k0 k1 k2
  have k0 := hB10.k0
  have k1 := hB10.k1
  have k2 := hB10.k2
  go_wp2_with fail
  refine (c28 _ _ _ hI10).mono ?_
  rintro e w11 ⟨rfl, z11, rfl⟩
  have hI11 := Ints.drewN hI10 z11
  have hL11 := Ints.drewN hL10 z11
  have hW11 := Bools.drewN hW10 z11
  have hB11 := Box.drewN hB10 z11
  clear k0 k1 k2
  have k0 := hB11.k0
  have k1 := hB11.k1
  have k2 := hB11.k2
  go_wp2_with fail
  refine (c51 _ _ _ hI11).mono ?_
  rintro e w12 ⟨A12, c12, rfl, hV, hb12⟩
  have hI12 := Ints.below hI11 hb12
  have hL12 := Ints.below hL11 hb12
  have hW12 := Bools.below hW11 hb12
  have hB12 := Box.step hB11 hb12
  clear k0 k1 k2
  have k0 := hB12.k0
  have k1 := hB12.k1
  have k2 := hB12.k2
  go_wp2_with fail
  refine (c50 _ _ _ _ _ hW12 hV).mono ?_
  rintro e w13 ⟨rfl, z13, rfl⟩
  have hI13 := Ints.drewN hI12 z13
  have hL13 := Ints.drewN hL12 z13
  have hW13 := Bools.drewN hW12 z13
  have hB13 := Box.drewN hB12 z13
  clear k0 k1 k2
  have k0 := hB13.k0
  have k1 := hB13.k1
  have k2 := hB13.k2
  clear k0 k1 k2
  go_wp2
  go_ret
  exact ⟨rfl, hB13.below⟩

set_option maxRecDepth 100000 in
set_option maxHeartbeats 3200000 in
theorem pools_big_s_f (c17 : ∀ W, Ints W A p → Calls Try.prog 17 #[.slice A m c, .int .i64 30] W (RetInts l W)) (hA : Ints w A p) (hl : l.length ≤ 30) (I : Int) (h0 : 0 < I) (hI : itemsM q t n = I) (hi1 : 0 ≤ item) (hi : I ≤ item) (hs : item ≤ 100) (hr : rsB I (-1) l = false) : Calls Try.prog 14 #[pools q t n, .int .i64 item, .slice A m c] w (Said true w) := by
  have hv := items_valid (q := q) (t := t) (n := n) (by omega)
  obtain ⟨v1, v2, v3, v4, v5, v6, v7⟩ := hv
  have hpb := prime_bd v1
  obtain ⟨hp1, hp2⟩ := hpb
  have hIe : q ^ t.toNat = I := by omega
  have hI2 : I ≤ 1000 := by omega
  obtain ⟨tn, rfl⟩ : ∃ tn : Nat, t = tn := ⟨t.toNat, by omega⟩
  obtain ⟨nn, rfl⟩ : ∃ nn : Nat, n = nn := ⟨n.toNat, by omega⟩
  obtain ⟨N, hN⟩ : ∃ N, nn * q.toNat = N := ⟨_, rfl⟩
  have c27 : ∀ W, Calls Try.prog 27 #[pools q tn nn, .int .i64 item] W (Ret2 [] 1 W) := fun W => by
    have := Members_any q tn nn item W
    have e : membersR q tn nn item = ([], 1) := by unfold membersR; rw [if_pos (by omega)]
    rwa [e] at this
  have c45 : ∀ W, Calls Try.prog 45 #[pools q tn nn, .int .i64 item] W fun e' w' => e' = .returned (.tuple #[.int .i64 (strG I tn nn item), .int .i64 0]) ∧ Below W.heap.size W w' := fun W => by
    have := Strength_any q tn nn item W
    have e : strR q tn nn item = ((strG I tn nn item), 0) := by unfold strR; rw [if_neg (by omega), hI]
    rwa [e] at this
  have c42 : ∀ W A c, Ints W A l → Calls Try.prog 42 #[pools q tn nn, .slice A l.length c] W (RetW [] 1 W) := fun W A c hJ => Wet_bad q tn nn A c l.length l W hJ rfl (by omega) (.inr (by rw [hI]; exact hr))
  have c46 : ∀ W, Calls Try.prog 46 #[pools q tn nn] W (Said true W) := fun W => by
    have := refValid_any q tn nn W
    rwa [decide_eq_true (by omega)] at this
  have c47 : ∀ W, Calls Try.prog 47 #[pools q tn nn] W fun e w' => e = .returned (.int .i64 0) ∧ Below W.heap.size W w' := fun W => by
    have := Check_any q tn nn W
    rwa [if_neg (by omega)] at this
  have c25 : ∀ W, Calls Try.prog 25 #[pools q tn nn] W fun e w' => e = .returned (.int .i64 I) ∧ Below W.heap.size W w' := fun W => (refItems_any q tn nn W ⟨hp1, hp2⟩ ⟨v2, by omega⟩).mono fun e w' ⟨J, he, hj, _, hb⟩ => ⟨by rw [he, hj (by omega), hIe], hb⟩
  have c28 : ∀ W A c, Ints W A l → Calls Try.prog 28 #[.slice A l.length c, .int .i64 I] W fun e w' => e = .returned (.bool false) ∧ ∃ z, w' = W.drewN z := fun W A c hJ => by
    have := refRising_any A c l.length l I W hJ rfl (by omega) ⟨by omega, by omega⟩
    rwa [hr] at this
  have c49 : ∀ W, Calls Try.prog 49 #[pools q tn nn, .int .i64 item] W fun e' w' => e' = .returned (.int .i64 (strG I tn nn item)) ∧ Below W.heap.size W w' := fun W => by
    have := refStrength_any q tn nn item W ⟨hp1, hp2⟩ ⟨v2, by omega⟩ ⟨v4, v5⟩ v6 ⟨by omega, by omega⟩
    rwa [hIe] at this
  have hB := Box.new w q tn nn
  have hA0 := Ints.below hA ((Below.refl _ _).alloc (Nat.le_refl _) (.cells #[.int .i64 q, .int .i64 tn, .int .i64 nn] 35))
  clear hr hI v1 v6 v7 hIe hN
  generalize strG I tn nn item = sn at *
  go_enter Try.func14, Try.ntmps14
  go_wp2_with fail
  refine (c17 _ hA0).mono ?_
  rintro e w1 ⟨v1, rfl, hs1, hb1⟩
  obtain ⟨A1, c1, rfl, hI⟩ := hs1.lieA rfl
  have hB1 := hB.step hb1
  have k0 := hB1.k0
  have k1 := hB1.k1
  have k2 := hB1.k2
  go_wp2_with fail
  refine (c27 _).mono ?_
  rintro e w2 ⟨v2, rfl, hs2, hb2⟩
  obtain ⟨A2, c2, rfl, hL⟩ := hs2.lieA (n := 0) rfl
  have hB2 := hB1.step hb2
  have hI2 := Ints.below hI hb2
  clear k0 k1 k2
  have k0 := hB2.k0
  have k1 := hB2.k1
  have k2 := hB2.k2
  go_wp2_with fail
  refine (c45 _).mono ?_
  rintro e w3 ⟨rfl, hb3⟩
  have hB3 := hB2.step hb3
  have hI3 := Ints.below hI2 hb3
  have hL3 := Ints.below hL hb3
  clear k0 k1 k2
  have k0 := hB3.k0
  have k1 := hB3.k1
  have k2 := hB3.k2
  go_wp2_with fail
  refine (c42 _ _ _ hI3).mono ?_
  rintro e w4 ⟨A4, c4, rfl, hW, hb4⟩
  have hB4 := hB3.step hb4
  have hI4 := Ints.below hI3 hb4
  have hL4 := Ints.below hL3 hb4
  clear k0 k1 k2
  have k0 := hB4.k0
  have k1 := hB4.k1
  have k2 := hB4.k2

  go_wp2_with fail
  refine (c46 _).mono ?_
  rintro e w5 ⟨rfl, hb5⟩
  have hB5 := hB4.step hb5
  have hI5 := Ints.below hI4 hb5
  have hL5 := Ints.below hL4 hb5
  have hW5 := Bools.below hW hb5
  clear k0 k1 k2
  have k0 := hB5.k0
  have k1 := hB5.k1
  have k2 := hB5.k2
  go_wp2_with fail
  refine (c47 _).mono ?_
  rintro e w6 ⟨rfl, hb6⟩
  have hB6 := hB5.step hb6
  have hI6 := Ints.below hI5 hb6
  have hL6 := Ints.below hL5 hb6
  have hW6 := Bools.below hW5 hb6
  clear k0 k1 k2
  go_wp2_with fail
  refine (lives_any _).mono ?_
  rintro e w7 ⟨rfl, hb7⟩
  have hB7 := hB6.step hb7
  have hI7 := Ints.below hI6 hb7
  have hL7 := Ints.below hL6 hb7
  have hW7 := Bools.below hW6 hb7
  have k0 := hB7.k0
  have k1 := hB7.k1
  have k2 := hB7.k2
  go_wp2_with fail
  refine (c25 _).mono ?_
  rintro e w8 ⟨rfl, hb8⟩
  have hI8 := Ints.below hI7 hb8
  have hL8 := Ints.below hL7 hb8
  have hW8 := Bools.below hW7 hb8
  have hB8 := Box.step hB7 hb8
  clear k0 k1 k2
  have k0 := hB8.k0
  have k1 := hB8.k1
  have k2 := hB8.k2
  go_wp2_with fail
  refine (c49 _).mono ?_
  rintro e w9 ⟨rfl, hb9⟩
  have hI9 := Ints.below hI8 hb9
  have hL9 := Ints.below hL8 hb9
  have hW9 := Bools.below hW8 hb9
  have hB9 := Box.step hB8 hb9
  clear k0 k1 k2
  have k0 := hB9.k0
  have k1 := hB9.k1
  have k2 := hB9.k2
  go_wp2_with fail
  refine (c25 _).mono ?_
  rintro e w10 ⟨rfl, hb10⟩
  have hI10 := Ints.below hI9 hb10
  have hL10 := Ints.below hL9 hb10
  have hW10 := Bools.below hW9 hb10
  have hB10 := Box.step hB9 hb10
  clear k0 k1 k2
  have k0 := hB10.k0
  have k1 := hB10.k1
  have k2 := hB10.k2
  go_wp2_with fail
  refine (c28 _ _ _ hI10).mono ?_
  rintro e w11 ⟨rfl, z11, rfl⟩
  have hI11 := Ints.drewN hI10 z11
  have hL11 := Ints.drewN hL10 z11
  have hW11 := Bools.drewN hW10 z11
  have hB11 := Box.drewN hB10 z11
  clear k0 k1 k2
  have k0 := hB11.k0
  have k1 := hB11.k1
  have k2 := hB11.k2
  clear k0 k1 k2
  go_wp2
  go_ret
  exact ⟨rfl, hB11.below⟩

set_option maxRecDepth 100000 in
set_option maxHeartbeats 3200000 in
theorem pools_big_n_r (c17 : ∀ W, Ints W A p → Calls Try.prog 17 #[.slice A m c, .int .i64 30] W (RetInts l W)) (hA : Ints w A p) (hl : l.length ≤ 30) (I : Int) (h0 : 0 < I) (hI : itemsM q t n = I) (hi1 : 0 ≤ item) (hi : I ≤ item) (hs : 100 < item) (hr : rsB I (-1) l = true) : Calls Try.prog 14 #[pools q t n, .int .i64 item, .slice A m c] w (Said true w) := by
  have hv := items_valid (q := q) (t := t) (n := n) (by omega)
  obtain ⟨v1, v2, v3, v4, v5, v6, v7⟩ := hv
  have hpb := prime_bd v1
  obtain ⟨hp1, hp2⟩ := hpb
  have hIe : q ^ t.toNat = I := by omega
  have hI2 : I ≤ 1000 := by omega
  obtain ⟨tn, rfl⟩ : ∃ tn : Nat, t = tn := ⟨t.toNat, by omega⟩
  obtain ⟨nn, rfl⟩ : ∃ nn : Nat, n = nn := ⟨n.toNat, by omega⟩
  obtain ⟨N, hN⟩ : ∃ N, nn * q.toNat = N := ⟨_, rfl⟩
  have c27 : ∀ W, Calls Try.prog 27 #[pools q tn nn, .int .i64 item] W (Ret2 [] 1 W) := fun W => by
    have := Members_any q tn nn item W
    have e : membersR q tn nn item = ([], 1) := by unfold membersR; rw [if_pos (by omega)]
    rwa [e] at this
  have c45 : ∀ W, Calls Try.prog 45 #[pools q tn nn, .int .i64 item] W fun e' w' => e' = .returned (.tuple #[.int .i64 0, .int .i64 1]) ∧ Below W.heap.size W w' := fun W => by
    have := Strength_any q tn nn item W
    have e : strR q tn nn item = (0, 1) := by unfold strR; rw [if_pos (by omega)]
    rwa [e] at this
  have c42 : ∀ W A c, Ints W A l → Calls Try.prog 42 #[pools q tn nn, .slice A l.length c] W (RetW (wetM q tn nn l) 0 W) := fun W A c hJ => (Wet_good q I tn nn l.length N A c l W ⟨hp1, hp2⟩ (by omega) ⟨by omega, by omega⟩ hN hI ⟨h0, hI2⟩ hJ rfl (by omega) hr).mono fun e w' ⟨g, he, ho, hb⟩ => ⟨some ⟨g, 0, none⟩, N, by rw [he, wetM_length, hN], ho.bools, hb⟩
  have c46 : ∀ W, Calls Try.prog 46 #[pools q tn nn] W (Said true W) := fun W => by
    have := refValid_any q tn nn W
    rwa [decide_eq_true (by omega)] at this
  have c47 : ∀ W, Calls Try.prog 47 #[pools q tn nn] W fun e w' => e = .returned (.int .i64 0) ∧ Below W.heap.size W w' := fun W => by
    have := Check_any q tn nn W
    rwa [if_neg (by omega)] at this
  have c25 : ∀ W, Calls Try.prog 25 #[pools q tn nn] W fun e w' => e = .returned (.int .i64 I) ∧ Below W.heap.size W w' := fun W => (refItems_any q tn nn W ⟨hp1, hp2⟩ ⟨v2, by omega⟩).mono fun e w' ⟨J, he, hj, _, hb⟩ => ⟨by rw [he, hj (by omega), hIe], hb⟩
  have c28 : ∀ W A c, Ints W A l → Calls Try.prog 28 #[.slice A l.length c, .int .i64 I] W fun e w' => e = .returned (.bool true) ∧ ∃ z, w' = W.drewN z := fun W A c hJ => by
    have := refRising_any A c l.length l I W hJ rfl (by omega) ⟨by omega, by omega⟩
    rwa [hr] at this
  have hlw : (wetM q tn nn l).length = N := by rw [wetM_length, hN]
  have c51 : ∀ W A c, Ints W A l → Calls Try.prog 51 #[pools q tn nn, .slice A l.length c] W fun e w' => ∃ A c, e = .returned (.slice A N c) ∧ Bools w' A (wetM q tn nn l) ∧ Below W.heap.size W w' := fun W A c hJ => (refWet_any q I tn nn l.length N A c l W ⟨hp1, hp2⟩ (by omega) ⟨by omega, by omega⟩ hN (by omega) hJ rfl (by omega) hr).mono fun e w' ⟨g, he, ho, hb⟩ => ⟨some ⟨g, 0, none⟩, N, he, ho.bools, hb⟩
  have hNb : N ≤ 961 := by rw [← hN]; exact Nat.mul_le_mul (show nn ≤ 31 by omega) (show q.toNat ≤ 31 by omega)
  have c50 : ∀ (W : World) A B c d, Bools W A (wetM q tn nn l) → Bools W B (wetM q tn nn l) → Calls Try.prog 50 #[.slice A N c, .slice B N d] W fun e w' => e = .returned (.bool true) ∧ ∃ z, w' = W.drewN z := fun W A B c d h1 h2 => wets_same A B c d N _ W h1 h2 hlw (by omega)
  have hB := Box.new w q tn nn
  have hA0 := Ints.below hA ((Below.refl _ _).alloc (Nat.le_refl _) (.cells #[.int .i64 q, .int .i64 tn, .int .i64 nn] 35))
  clear hr hI v1 v6 v7 hIe hN
  generalize wetM q tn nn l = wl at *
  go_enter Try.func14, Try.ntmps14
  go_wp2_with fail
  refine (c17 _ hA0).mono ?_
  rintro e w1 ⟨v1, rfl, hs1, hb1⟩
  obtain ⟨A1, c1, rfl, hI⟩ := hs1.lieA rfl
  have hB1 := hB.step hb1
  have k0 := hB1.k0
  have k1 := hB1.k1
  have k2 := hB1.k2
  go_wp2_with fail
  refine (c27 _).mono ?_
  rintro e w2 ⟨v2, rfl, hs2, hb2⟩
  obtain ⟨A2, c2, rfl, hL⟩ := hs2.lieA (n := 0) rfl
  have hB2 := hB1.step hb2
  have hI2 := Ints.below hI hb2
  clear k0 k1 k2
  have k0 := hB2.k0
  have k1 := hB2.k1
  have k2 := hB2.k2
  go_wp2_with fail
  refine (c45 _).mono ?_
  rintro e w3 ⟨rfl, hb3⟩
  have hB3 := hB2.step hb3
  have hI3 := Ints.below hI2 hb3
  have hL3 := Ints.below hL hb3
  clear k0 k1 k2
  have k0 := hB3.k0
  have k1 := hB3.k1
  have k2 := hB3.k2
  go_wp2_with fail
  refine (c42 _ _ _ hI3).mono ?_
  rintro e w4 ⟨A4, c4, rfl, hW, hb4⟩
  have hB4 := hB3.step hb4
  have hI4 := Ints.below hI3 hb4
  have hL4 := Ints.below hL3 hb4
  clear k0 k1 k2
  have k0 := hB4.k0
  have k1 := hB4.k1
  have k2 := hB4.k2
  rw [hlw]
  go_wp2_with fail
  refine (c46 _).mono ?_
  rintro e w5 ⟨rfl, hb5⟩
  have hB5 := hB4.step hb5
  have hI5 := Ints.below hI4 hb5
  have hL5 := Ints.below hL4 hb5
  have hW5 := Bools.below hW hb5
  clear k0 k1 k2
  have k0 := hB5.k0
  have k1 := hB5.k1
  have k2 := hB5.k2
  go_wp2_with fail
  refine (c47 _).mono ?_
  rintro e w6 ⟨rfl, hb6⟩
  have hB6 := hB5.step hb6
  have hI6 := Ints.below hI5 hb6
  have hL6 := Ints.below hL5 hb6
  have hW6 := Bools.below hW5 hb6
  clear k0 k1 k2
  go_wp2_with fail
  refine (lives_any _).mono ?_
  rintro e w7 ⟨rfl, hb7⟩
  have hB7 := hB6.step hb7
  have hI7 := Ints.below hI6 hb7
  have hL7 := Ints.below hL6 hb7
  have hW7 := Bools.below hW6 hb7
  have k0 := hB7.k0
  have k1 := hB7.k1
  have k2 := hB7.k2
  go_wp2_with fail
  refine (c25 _).mono ?_
  rintro e w8 ⟨rfl, hb8⟩
  have hI8 := Ints.below hI7 hb8
  have hL8 := Ints.below hL7 hb8
  have hW8 := Bools.below hW7 hb8
  have hB8 := Box.step hB7 hb8
  clear k0 k1 k2
  have k0 := hB8.k0
  have k1 := hB8.k1
  have k2 := hB8.k2
  go_wp2_with fail
  refine (c25 _).mono ?_
  rintro e w9 ⟨rfl, hb9⟩
  have hI9 := Ints.below hI8 hb9
  have hL9 := Ints.below hL8 hb9
  have hW9 := Bools.below hW8 hb9
  have hB9 := Box.step hB8 hb9
  clear k0 k1 k2
  have k0 := hB9.k0
  have k1 := hB9.k1
  have k2 := hB9.k2
  go_wp2_with fail
  refine (c28 _ _ _ hI9).mono ?_
  rintro e w10 ⟨rfl, z10, rfl⟩
  have hI10 := Ints.drewN hI9 z10
  have hL10 := Ints.drewN hL9 z10
  have hW10 := Bools.drewN hW9 z10
  have hB10 := Box.drewN hB9 z10
  clear k0 k1 k2
  have k0 := hB10.k0
  have k1 := hB10.k1
  have k2 := hB10.k2
  go_wp2_with fail
  refine (c51 _ _ _ hI10).mono ?_
  rintro e w11 ⟨A11, c11, rfl, hV, hb11⟩
  have hI11 := Ints.below hI10 hb11
  have hL11 := Ints.below hL10 hb11
  have hW11 := Bools.below hW10 hb11
  have hB11 := Box.step hB10 hb11
  clear k0 k1 k2
  have k0 := hB11.k0
  have k1 := hB11.k1
  have k2 := hB11.k2
  go_wp2_with fail
  refine (c50 _ _ _ _ _ hW11 hV).mono ?_
  rintro e w12 ⟨rfl, z12, rfl⟩
  have hI12 := Ints.drewN hI11 z12
  have hL12 := Ints.drewN hL11 z12
  have hW12 := Bools.drewN hW11 z12
  have hB12 := Box.drewN hB11 z12
  clear k0 k1 k2
  have k0 := hB12.k0
  have k1 := hB12.k1
  have k2 := hB12.k2
  clear k0 k1 k2
  go_wp2
  go_ret
  exact ⟨rfl, hB12.below⟩

set_option maxRecDepth 100000 in
set_option maxHeartbeats 3200000 in
theorem pools_big_n_f (c17 : ∀ W, Ints W A p → Calls Try.prog 17 #[.slice A m c, .int .i64 30] W (RetInts l W)) (hA : Ints w A p) (hl : l.length ≤ 30) (I : Int) (h0 : 0 < I) (hI : itemsM q t n = I) (hi1 : 0 ≤ item) (hi : I ≤ item) (hs : 100 < item) (hr : rsB I (-1) l = false) : Calls Try.prog 14 #[pools q t n, .int .i64 item, .slice A m c] w (Said true w) := by
  have hv := items_valid (q := q) (t := t) (n := n) (by omega)
  obtain ⟨v1, v2, v3, v4, v5, v6, v7⟩ := hv
  have hpb := prime_bd v1
  obtain ⟨hp1, hp2⟩ := hpb
  have hIe : q ^ t.toNat = I := by omega
  have hI2 : I ≤ 1000 := by omega
  obtain ⟨tn, rfl⟩ : ∃ tn : Nat, t = tn := ⟨t.toNat, by omega⟩
  obtain ⟨nn, rfl⟩ : ∃ nn : Nat, n = nn := ⟨n.toNat, by omega⟩
  obtain ⟨N, hN⟩ : ∃ N, nn * q.toNat = N := ⟨_, rfl⟩
  have c27 : ∀ W, Calls Try.prog 27 #[pools q tn nn, .int .i64 item] W (Ret2 [] 1 W) := fun W => by
    have := Members_any q tn nn item W
    have e : membersR q tn nn item = ([], 1) := by unfold membersR; rw [if_pos (by omega)]
    rwa [e] at this
  have c45 : ∀ W, Calls Try.prog 45 #[pools q tn nn, .int .i64 item] W fun e' w' => e' = .returned (.tuple #[.int .i64 0, .int .i64 1]) ∧ Below W.heap.size W w' := fun W => by
    have := Strength_any q tn nn item W
    have e : strR q tn nn item = (0, 1) := by unfold strR; rw [if_pos (by omega)]
    rwa [e] at this
  have c42 : ∀ W A c, Ints W A l → Calls Try.prog 42 #[pools q tn nn, .slice A l.length c] W (RetW [] 1 W) := fun W A c hJ => Wet_bad q tn nn A c l.length l W hJ rfl (by omega) (.inr (by rw [hI]; exact hr))
  have c46 : ∀ W, Calls Try.prog 46 #[pools q tn nn] W (Said true W) := fun W => by
    have := refValid_any q tn nn W
    rwa [decide_eq_true (by omega)] at this
  have c47 : ∀ W, Calls Try.prog 47 #[pools q tn nn] W fun e w' => e = .returned (.int .i64 0) ∧ Below W.heap.size W w' := fun W => by
    have := Check_any q tn nn W
    rwa [if_neg (by omega)] at this
  have c25 : ∀ W, Calls Try.prog 25 #[pools q tn nn] W fun e w' => e = .returned (.int .i64 I) ∧ Below W.heap.size W w' := fun W => (refItems_any q tn nn W ⟨hp1, hp2⟩ ⟨v2, by omega⟩).mono fun e w' ⟨J, he, hj, _, hb⟩ => ⟨by rw [he, hj (by omega), hIe], hb⟩
  have c28 : ∀ W A c, Ints W A l → Calls Try.prog 28 #[.slice A l.length c, .int .i64 I] W fun e w' => e = .returned (.bool false) ∧ ∃ z, w' = W.drewN z := fun W A c hJ => by
    have := refRising_any A c l.length l I W hJ rfl (by omega) ⟨by omega, by omega⟩
    rwa [hr] at this

  have hB := Box.new w q tn nn
  have hA0 := Ints.below hA ((Below.refl _ _).alloc (Nat.le_refl _) (.cells #[.int .i64 q, .int .i64 tn, .int .i64 nn] 35))
  clear hr hI v1 v6 v7 hIe hN

  go_enter Try.func14, Try.ntmps14
  go_wp2_with fail
  refine (c17 _ hA0).mono ?_
  rintro e w1 ⟨v1, rfl, hs1, hb1⟩
  obtain ⟨A1, c1, rfl, hI⟩ := hs1.lieA rfl
  have hB1 := hB.step hb1
  have k0 := hB1.k0
  have k1 := hB1.k1
  have k2 := hB1.k2
  go_wp2_with fail
  refine (c27 _).mono ?_
  rintro e w2 ⟨v2, rfl, hs2, hb2⟩
  obtain ⟨A2, c2, rfl, hL⟩ := hs2.lieA (n := 0) rfl
  have hB2 := hB1.step hb2
  have hI2 := Ints.below hI hb2
  clear k0 k1 k2
  have k0 := hB2.k0
  have k1 := hB2.k1
  have k2 := hB2.k2
  go_wp2_with fail
  refine (c45 _).mono ?_
  rintro e w3 ⟨rfl, hb3⟩
  have hB3 := hB2.step hb3
  have hI3 := Ints.below hI2 hb3
  have hL3 := Ints.below hL hb3
  clear k0 k1 k2
  have k0 := hB3.k0
  have k1 := hB3.k1
  have k2 := hB3.k2
  go_wp2_with fail
  refine (c42 _ _ _ hI3).mono ?_
  rintro e w4 ⟨A4, c4, rfl, hW, hb4⟩
  have hB4 := hB3.step hb4
  have hI4 := Ints.below hI3 hb4
  have hL4 := Ints.below hL3 hb4
  clear k0 k1 k2
  have k0 := hB4.k0
  have k1 := hB4.k1
  have k2 := hB4.k2

  go_wp2_with fail
  refine (c46 _).mono ?_
  rintro e w5 ⟨rfl, hb5⟩
  have hB5 := hB4.step hb5
  have hI5 := Ints.below hI4 hb5
  have hL5 := Ints.below hL4 hb5
  have hW5 := Bools.below hW hb5
  clear k0 k1 k2
  have k0 := hB5.k0
  have k1 := hB5.k1
  have k2 := hB5.k2
  go_wp2_with fail
  refine (c47 _).mono ?_
  rintro e w6 ⟨rfl, hb6⟩
  have hB6 := hB5.step hb6
  have hI6 := Ints.below hI5 hb6
  have hL6 := Ints.below hL5 hb6
  have hW6 := Bools.below hW5 hb6
  clear k0 k1 k2
  go_wp2_with fail
  refine (lives_any _).mono ?_
  rintro e w7 ⟨rfl, hb7⟩
  have hB7 := hB6.step hb7
  have hI7 := Ints.below hI6 hb7
  have hL7 := Ints.below hL6 hb7
  have hW7 := Bools.below hW6 hb7
  have k0 := hB7.k0
  have k1 := hB7.k1
  have k2 := hB7.k2
  go_wp2_with fail
  refine (c25 _).mono ?_
  rintro e w8 ⟨rfl, hb8⟩
  have hI8 := Ints.below hI7 hb8
  have hL8 := Ints.below hL7 hb8
  have hW8 := Bools.below hW7 hb8
  have hB8 := Box.step hB7 hb8
  clear k0 k1 k2
  have k0 := hB8.k0
  have k1 := hB8.k1
  have k2 := hB8.k2
  go_wp2_with fail
  refine (c25 _).mono ?_
  rintro e w9 ⟨rfl, hb9⟩
  have hI9 := Ints.below hI8 hb9
  have hL9 := Ints.below hL8 hb9
  have hW9 := Bools.below hW8 hb9
  have hB9 := Box.step hB8 hb9
  clear k0 k1 k2
  have k0 := hB9.k0
  have k1 := hB9.k1
  have k2 := hB9.k2
  go_wp2_with fail
  refine (c28 _ _ _ hI9).mono ?_
  rintro e w10 ⟨rfl, z10, rfl⟩
  have hI10 := Ints.drewN hI9 z10
  have hL10 := Ints.drewN hL9 z10
  have hW10 := Bools.drewN hW9 z10
  have hB10 := Box.drewN hB9 z10
  clear k0 k1 k2
  have k0 := hB10.k0
  have k1 := hB10.k1
  have k2 := hB10.k2
  clear k0 k1 k2
  go_wp2
  go_ret
  exact ⟨rfl, hB10.below⟩

set_option maxRecDepth 100000 in
set_option maxHeartbeats 3200000 in
theorem pools_good_s_r (c17 : ∀ W, Ints W A p → Calls Try.prog 17 #[.slice A m c, .int .i64 30] W (RetInts l W)) (hA : Ints w A p) (hl : l.length ≤ 30) (I : Int) (h0 : 0 < I) (hI : itemsM q t n = I) (hi1 : 0 ≤ item) (hi : item < I) (hs : item ≤ 100) (hr : rsB I (-1) l = true) : Calls Try.prog 14 #[pools q t n, .int .i64 item, .slice A m c] w (Said true w) := by
  have hv := items_valid (q := q) (t := t) (n := n) (by omega)
  obtain ⟨v1, v2, v3, v4, v5, v6, v7⟩ := hv
  have hpb := prime_bd v1
  obtain ⟨hp1, hp2⟩ := hpb
  have hIe : q ^ t.toNat = I := by omega
  have hI2 : I ≤ 1000 := by omega
  obtain ⟨tn, rfl⟩ : ∃ tn : Nat, t = tn := ⟨t.toNat, by omega⟩
  obtain ⟨nn, rfl⟩ : ∃ nn : Nat, n = nn := ⟨n.toNat, by omega⟩
  obtain ⟨N, hN⟩ : ∃ N, nn * q.toNat = N := ⟨_, rfl⟩
  have c27 : ∀ W, Calls Try.prog 27 #[pools q tn nn, .int .i64 item] W (Ret2 (membersM q item tn nn) 0 W) := fun W => by
    have := Members_any q tn nn item W
    have e : membersR q tn nn item = ((membersM q item tn nn), 0) := by unfold membersR; rw [if_neg (by omega)]; rfl
    rwa [e] at this
  have c45 : ∀ W, Calls Try.prog 45 #[pools q tn nn, .int .i64 item] W fun e' w' => e' = .returned (.tuple #[.int .i64 (strG I tn nn item), .int .i64 0]) ∧ Below W.heap.size W w' := fun W => by
    have := Strength_any q tn nn item W
    have e : strR q tn nn item = ((strG I tn nn item), 0) := by unfold strR; rw [if_neg (by omega), hI]
    rwa [e] at this
  have c42 : ∀ W A c, Ints W A l → Calls Try.prog 42 #[pools q tn nn, .slice A l.length c] W (RetW (wetM q tn nn l) 0 W) := fun W A c hJ => (Wet_good q I tn nn l.length N A c l W ⟨hp1, hp2⟩ (by omega) ⟨by omega, by omega⟩ hN hI ⟨h0, hI2⟩ hJ rfl (by omega) hr).mono fun e w' ⟨g, he, ho, hb⟩ => ⟨some ⟨g, 0, none⟩, N, by rw [he, wetM_length, hN], ho.bools, hb⟩
  have c46 : ∀ W, Calls Try.prog 46 #[pools q tn nn] W (Said true W) := fun W => by
    have := refValid_any q tn nn W
    rwa [decide_eq_true (by omega)] at this
  have c47 : ∀ W, Calls Try.prog 47 #[pools q tn nn] W fun e w' => e = .returned (.int .i64 0) ∧ Below W.heap.size W w' := fun W => by
    have := Check_any q tn nn W
    rwa [if_neg (by omega)] at this
  have c25 : ∀ W, Calls Try.prog 25 #[pools q tn nn] W fun e w' => e = .returned (.int .i64 I) ∧ Below W.heap.size W w' := fun W => (refItems_any q tn nn W ⟨hp1, hp2⟩ ⟨v2, by omega⟩).mono fun e w' ⟨J, he, hj, _, hb⟩ => ⟨by rw [he, hj (by omega), hIe], hb⟩
  have c28 : ∀ W A c, Ints W A l → Calls Try.prog 28 #[.slice A l.length c, .int .i64 I] W fun e w' => e = .returned (.bool true) ∧ ∃ z, w' = W.drewN z := fun W A c hJ => by
    have := refRising_any A c l.length l I W hJ rfl (by omega) ⟨by omega, by omega⟩
    rwa [hr] at this
  have c48 : ∀ W, Calls Try.prog 48 #[pools q tn nn, .int .i64 item] W (RetInts (membersM q item tn nn) W) := fun W => (refMembers_own q item tn nn W ⟨hp1, hp2⟩ (by omega) (by omega) ⟨by omega, by omega⟩).mono fun _ _ h => h.ints
  have hlen := membersM_length q item tn nn
  have c23 : ∀ (W : World) A B c d, Ints W A (membersM q item tn nn) → Ints W B (membersM q item tn nn) → Calls Try.prog 23 #[.slice A nn c, .slice B nn d] W fun e w' => e = .returned (.bool true) ∧ ∃ z, w' = W.drewN z := fun W A B c d h1 h2 => by
    have := lawsame_any A B nn nn c d _ _ W h1 h2 hlen hlen (by omega) (by omega)
    simpa using this
  have c49 : ∀ W, Calls Try.prog 49 #[pools q tn nn, .int .i64 item] W fun e' w' => e' = .returned (.int .i64 (strG I tn nn item)) ∧ Below W.heap.size W w' := fun W => by
    have := refStrength_any q tn nn item W ⟨hp1, hp2⟩ ⟨v2, by omega⟩ ⟨v4, v5⟩ v6 ⟨by omega, by omega⟩
    rwa [hIe] at this
  have hlw : (wetM q tn nn l).length = N := by rw [wetM_length, hN]
  have c51 : ∀ W A c, Ints W A l → Calls Try.prog 51 #[pools q tn nn, .slice A l.length c] W fun e w' => ∃ A c, e = .returned (.slice A N c) ∧ Bools w' A (wetM q tn nn l) ∧ Below W.heap.size W w' := fun W A c hJ => (refWet_any q I tn nn l.length N A c l W ⟨hp1, hp2⟩ (by omega) ⟨by omega, by omega⟩ hN (by omega) hJ rfl (by omega) hr).mono fun e w' ⟨g, he, ho, hb⟩ => ⟨some ⟨g, 0, none⟩, N, he, ho.bools, hb⟩
  have hNb : N ≤ 961 := by rw [← hN]; exact Nat.mul_le_mul (show nn ≤ 31 by omega) (show q.toNat ≤ 31 by omega)
  have c50 : ∀ (W : World) A B c d, Bools W A (wetM q tn nn l) → Bools W B (wetM q tn nn l) → Calls Try.prog 50 #[.slice A N c, .slice B N d] W fun e w' => e = .returned (.bool true) ∧ ∃ z, w' = W.drewN z := fun W A B c d h1 h2 => wets_same A B c d N _ W h1 h2 hlw (by omega)
  have hB := Box.new w q tn nn
  have hA0 := Ints.below hA ((Below.refl _ _).alloc (Nat.le_refl _) (.cells #[.int .i64 q, .int .i64 tn, .int .i64 nn] 35))
  clear hr hI v1 v6 v7 hIe hN
  generalize membersM q item tn nn = lm at *
  generalize strG I tn nn item = sn at *
  generalize wetM q tn nn l = wl at *
  go_enter Try.func14, Try.ntmps14
  go_wp2_with fail
  refine (c17 _ hA0).mono ?_
  rintro e w1 ⟨v1, rfl, hs1, hb1⟩
  obtain ⟨A1, c1, rfl, hI⟩ := hs1.lieA rfl
  have hB1 := hB.step hb1
  have k0 := hB1.k0
  have k1 := hB1.k1
  have k2 := hB1.k2
  go_wp2_with fail
  refine (c27 _).mono ?_
  rintro e w2 ⟨v2, rfl, hs2, hb2⟩
  obtain ⟨A2, c2, rfl, hL⟩ := hs2.lieA (n := nn) hlen
  have hB2 := hB1.step hb2
  have hI2 := Ints.below hI hb2
  clear k0 k1 k2
  have k0 := hB2.k0
  have k1 := hB2.k1
  have k2 := hB2.k2
  go_wp2_with fail
  refine (c45 _).mono ?_
  rintro e w3 ⟨rfl, hb3⟩
  have hB3 := hB2.step hb3
  have hI3 := Ints.below hI2 hb3
  have hL3 := Ints.below hL hb3
  clear k0 k1 k2
  have k0 := hB3.k0
  have k1 := hB3.k1
  have k2 := hB3.k2
  go_wp2_with fail
  refine (c42 _ _ _ hI3).mono ?_
  rintro e w4 ⟨A4, c4, rfl, hW, hb4⟩
  have hB4 := hB3.step hb4
  have hI4 := Ints.below hI3 hb4
  have hL4 := Ints.below hL3 hb4
  clear k0 k1 k2
  have k0 := hB4.k0
  have k1 := hB4.k1
  have k2 := hB4.k2
  rw [hlw]
  go_wp2_with fail
  refine (c46 _).mono ?_
  rintro e w5 ⟨rfl, hb5⟩
  have hB5 := hB4.step hb5
  have hI5 := Ints.below hI4 hb5
  have hL5 := Ints.below hL4 hb5
  have hW5 := Bools.below hW hb5
  clear k0 k1 k2
  have k0 := hB5.k0
  have k1 := hB5.k1
  have k2 := hB5.k2
  go_wp2_with fail
  refine (c47 _).mono ?_
  rintro e w6 ⟨rfl, hb6⟩
  have hB6 := hB5.step hb6
  have hI6 := Ints.below hI5 hb6
  have hL6 := Ints.below hL5 hb6
  have hW6 := Bools.below hW5 hb6
  clear k0 k1 k2
  go_wp2_with fail
  refine (lives_any _).mono ?_
  rintro e w7 ⟨rfl, hb7⟩
  have hB7 := hB6.step hb7
  have hI7 := Ints.below hI6 hb7
  have hL7 := Ints.below hL6 hb7
  have hW7 := Bools.below hW6 hb7
  have k0 := hB7.k0
  have k1 := hB7.k1
  have k2 := hB7.k2
  go_wp2_with fail
  refine (c25 _).mono ?_
  rintro e w8 ⟨rfl, hb8⟩
  have hI8 := Ints.below hI7 hb8
  have hL8 := Ints.below hL7 hb8
  have hW8 := Bools.below hW7 hb8
  have hB8 := Box.step hB7 hb8
  clear k0 k1 k2
  have k0 := hB8.k0
  have k1 := hB8.k1
  have k2 := hB8.k2
  go_wp2_with fail
  refine (c48 _).mono ?_
  rintro e w9 ⟨v9, rfl, hs9, hb9⟩
  have hI9 := Ints.below hI8 hb9
  have hL9 := Ints.below hL8 hb9
  have hW9 := Bools.below hW8 hb9
  have hB9 := Box.step hB8 hb9
  clear k0 k1 k2
  have k0 := hB9.k0
  have k1 := hB9.k1
  have k2 := hB9.k2
  obtain ⟨A9, c9, rfl, hK⟩ := hs9.lieA (n := nn) hlen
  go_wp2_with fail
  refine (c23 _ _ _ _ _ hL9 hK).mono ?_
  rintro e w10 ⟨rfl, z10, rfl⟩
  have hI10 := Ints.drewN hI9 z10
  have hL10 := Ints.drewN hL9 z10
  have hW10 := Bools.drewN hW9 z10
  have hB10 := Box.drewN hB9 z10
  clear k0 k1 k2
  have k0 := hB10.k0
  have k1 := hB10.k1
  have k2 := hB10.k2
  go_wp2_with fail
  refine (c49 _).mono ?_
  rintro e w11 ⟨rfl, hb11⟩
  have hI11 := Ints.below hI10 hb11
  have hL11 := Ints.below hL10 hb11
  have hW11 := Bools.below hW10 hb11
  have hB11 := Box.step hB10 hb11
  clear k0 k1 k2
  have k0 := hB11.k0
  have k1 := hB11.k1
  have k2 := hB11.k2
  go_wp2_with fail
  refine (c25 _).mono ?_
  rintro e w12 ⟨rfl, hb12⟩
  have hI12 := Ints.below hI11 hb12
  have hL12 := Ints.below hL11 hb12
  have hW12 := Bools.below hW11 hb12
  have hB12 := Box.step hB11 hb12
  clear k0 k1 k2
  have k0 := hB12.k0
  have k1 := hB12.k1
  have k2 := hB12.k2
  go_wp2_with fail
  refine (c28 _ _ _ hI12).mono ?_
  rintro e w13 ⟨rfl, z13, rfl⟩
  have hI13 := Ints.drewN hI12 z13
  have hL13 := Ints.drewN hL12 z13
  have hW13 := Bools.drewN hW12 z13
  have hB13 := Box.drewN hB12 z13
  clear k0 k1 k2
  have k0 := hB13.k0
  have k1 := hB13.k1
  have k2 := hB13.k2
  go_wp2_with fail
  refine (c51 _ _ _ hI13).mono ?_
  rintro e w14 ⟨A14, c14, rfl, hV, hb14⟩
  have hI14 := Ints.below hI13 hb14
  have hL14 := Ints.below hL13 hb14
  have hW14 := Bools.below hW13 hb14
  have hB14 := Box.step hB13 hb14
  clear k0 k1 k2
  have k0 := hB14.k0
  have k1 := hB14.k1
  have k2 := hB14.k2
  go_wp2_with fail
  refine (c50 _ _ _ _ _ hW14 hV).mono ?_
  rintro e w15 ⟨rfl, z15, rfl⟩
  have hI15 := Ints.drewN hI14 z15
  have hL15 := Ints.drewN hL14 z15
  have hW15 := Bools.drewN hW14 z15
  have hB15 := Box.drewN hB14 z15
  clear k0 k1 k2
  have k0 := hB15.k0
  have k1 := hB15.k1
  have k2 := hB15.k2
  clear k0 k1 k2
  go_wp2
  go_ret
  exact ⟨rfl, hB15.below⟩

set_option maxRecDepth 100000 in
set_option maxHeartbeats 3200000 in
theorem pools_good_s_f (c17 : ∀ W, Ints W A p → Calls Try.prog 17 #[.slice A m c, .int .i64 30] W (RetInts l W)) (hA : Ints w A p) (hl : l.length ≤ 30) (I : Int) (h0 : 0 < I) (hI : itemsM q t n = I) (hi1 : 0 ≤ item) (hi : item < I) (hs : item ≤ 100) (hr : rsB I (-1) l = false) : Calls Try.prog 14 #[pools q t n, .int .i64 item, .slice A m c] w (Said true w) := by
  have hv := items_valid (q := q) (t := t) (n := n) (by omega)
  obtain ⟨v1, v2, v3, v4, v5, v6, v7⟩ := hv
  have hpb := prime_bd v1
  obtain ⟨hp1, hp2⟩ := hpb
  have hIe : q ^ t.toNat = I := by omega
  have hI2 : I ≤ 1000 := by omega
  obtain ⟨tn, rfl⟩ : ∃ tn : Nat, t = tn := ⟨t.toNat, by omega⟩
  obtain ⟨nn, rfl⟩ : ∃ nn : Nat, n = nn := ⟨n.toNat, by omega⟩
  obtain ⟨N, hN⟩ : ∃ N, nn * q.toNat = N := ⟨_, rfl⟩
  have c27 : ∀ W, Calls Try.prog 27 #[pools q tn nn, .int .i64 item] W (Ret2 (membersM q item tn nn) 0 W) := fun W => by
    have := Members_any q tn nn item W
    have e : membersR q tn nn item = ((membersM q item tn nn), 0) := by unfold membersR; rw [if_neg (by omega)]; rfl
    rwa [e] at this
  have c45 : ∀ W, Calls Try.prog 45 #[pools q tn nn, .int .i64 item] W fun e' w' => e' = .returned (.tuple #[.int .i64 (strG I tn nn item), .int .i64 0]) ∧ Below W.heap.size W w' := fun W => by
    have := Strength_any q tn nn item W
    have e : strR q tn nn item = ((strG I tn nn item), 0) := by unfold strR; rw [if_neg (by omega), hI]
    rwa [e] at this
  have c42 : ∀ W A c, Ints W A l → Calls Try.prog 42 #[pools q tn nn, .slice A l.length c] W (RetW [] 1 W) := fun W A c hJ => Wet_bad q tn nn A c l.length l W hJ rfl (by omega) (.inr (by rw [hI]; exact hr))
  have c46 : ∀ W, Calls Try.prog 46 #[pools q tn nn] W (Said true W) := fun W => by
    have := refValid_any q tn nn W
    rwa [decide_eq_true (by omega)] at this
  have c47 : ∀ W, Calls Try.prog 47 #[pools q tn nn] W fun e w' => e = .returned (.int .i64 0) ∧ Below W.heap.size W w' := fun W => by
    have := Check_any q tn nn W
    rwa [if_neg (by omega)] at this
  have c25 : ∀ W, Calls Try.prog 25 #[pools q tn nn] W fun e w' => e = .returned (.int .i64 I) ∧ Below W.heap.size W w' := fun W => (refItems_any q tn nn W ⟨hp1, hp2⟩ ⟨v2, by omega⟩).mono fun e w' ⟨J, he, hj, _, hb⟩ => ⟨by rw [he, hj (by omega), hIe], hb⟩
  have c28 : ∀ W A c, Ints W A l → Calls Try.prog 28 #[.slice A l.length c, .int .i64 I] W fun e w' => e = .returned (.bool false) ∧ ∃ z, w' = W.drewN z := fun W A c hJ => by
    have := refRising_any A c l.length l I W hJ rfl (by omega) ⟨by omega, by omega⟩
    rwa [hr] at this
  have c48 : ∀ W, Calls Try.prog 48 #[pools q tn nn, .int .i64 item] W (RetInts (membersM q item tn nn) W) := fun W => (refMembers_own q item tn nn W ⟨hp1, hp2⟩ (by omega) (by omega) ⟨by omega, by omega⟩).mono fun _ _ h => h.ints
  have hlen := membersM_length q item tn nn
  have c23 : ∀ (W : World) A B c d, Ints W A (membersM q item tn nn) → Ints W B (membersM q item tn nn) → Calls Try.prog 23 #[.slice A nn c, .slice B nn d] W fun e w' => e = .returned (.bool true) ∧ ∃ z, w' = W.drewN z := fun W A B c d h1 h2 => by
    have := lawsame_any A B nn nn c d _ _ W h1 h2 hlen hlen (by omega) (by omega)
    simpa using this
  have c49 : ∀ W, Calls Try.prog 49 #[pools q tn nn, .int .i64 item] W fun e' w' => e' = .returned (.int .i64 (strG I tn nn item)) ∧ Below W.heap.size W w' := fun W => by
    have := refStrength_any q tn nn item W ⟨hp1, hp2⟩ ⟨v2, by omega⟩ ⟨v4, v5⟩ v6 ⟨by omega, by omega⟩
    rwa [hIe] at this
  have hB := Box.new w q tn nn
  have hA0 := Ints.below hA ((Below.refl _ _).alloc (Nat.le_refl _) (.cells #[.int .i64 q, .int .i64 tn, .int .i64 nn] 35))
  clear hr hI v1 v6 v7 hIe hN
  generalize membersM q item tn nn = lm at *
  generalize strG I tn nn item = sn at *
  go_enter Try.func14, Try.ntmps14
  go_wp2_with fail
  refine (c17 _ hA0).mono ?_
  rintro e w1 ⟨v1, rfl, hs1, hb1⟩
  obtain ⟨A1, c1, rfl, hI⟩ := hs1.lieA rfl
  have hB1 := hB.step hb1
  have k0 := hB1.k0
  have k1 := hB1.k1
  have k2 := hB1.k2
  go_wp2_with fail
  refine (c27 _).mono ?_
  rintro e w2 ⟨v2, rfl, hs2, hb2⟩
  obtain ⟨A2, c2, rfl, hL⟩ := hs2.lieA (n := nn) hlen
  have hB2 := hB1.step hb2
  have hI2 := Ints.below hI hb2
  clear k0 k1 k2
  have k0 := hB2.k0
  have k1 := hB2.k1
  have k2 := hB2.k2
  go_wp2_with fail
  refine (c45 _).mono ?_
  rintro e w3 ⟨rfl, hb3⟩
  have hB3 := hB2.step hb3
  have hI3 := Ints.below hI2 hb3
  have hL3 := Ints.below hL hb3
  clear k0 k1 k2
  have k0 := hB3.k0
  have k1 := hB3.k1
  have k2 := hB3.k2
  go_wp2_with fail
  refine (c42 _ _ _ hI3).mono ?_
  rintro e w4 ⟨A4, c4, rfl, hW, hb4⟩
  have hB4 := hB3.step hb4
  have hI4 := Ints.below hI3 hb4
  have hL4 := Ints.below hL3 hb4
  clear k0 k1 k2
  have k0 := hB4.k0
  have k1 := hB4.k1
  have k2 := hB4.k2

  go_wp2_with fail
  refine (c46 _).mono ?_
  rintro e w5 ⟨rfl, hb5⟩
  have hB5 := hB4.step hb5
  have hI5 := Ints.below hI4 hb5
  have hL5 := Ints.below hL4 hb5
  have hW5 := Bools.below hW hb5
  clear k0 k1 k2
  have k0 := hB5.k0
  have k1 := hB5.k1
  have k2 := hB5.k2
  go_wp2_with fail
  refine (c47 _).mono ?_
  rintro e w6 ⟨rfl, hb6⟩
  have hB6 := hB5.step hb6
  have hI6 := Ints.below hI5 hb6
  have hL6 := Ints.below hL5 hb6
  have hW6 := Bools.below hW5 hb6
  clear k0 k1 k2
  go_wp2_with fail
  refine (lives_any _).mono ?_
  rintro e w7 ⟨rfl, hb7⟩
  have hB7 := hB6.step hb7
  have hI7 := Ints.below hI6 hb7
  have hL7 := Ints.below hL6 hb7
  have hW7 := Bools.below hW6 hb7
  have k0 := hB7.k0
  have k1 := hB7.k1
  have k2 := hB7.k2
  go_wp2_with fail
  refine (c25 _).mono ?_
  rintro e w8 ⟨rfl, hb8⟩
  have hI8 := Ints.below hI7 hb8
  have hL8 := Ints.below hL7 hb8
  have hW8 := Bools.below hW7 hb8
  have hB8 := Box.step hB7 hb8
  clear k0 k1 k2
  have k0 := hB8.k0
  have k1 := hB8.k1
  have k2 := hB8.k2
  go_wp2_with fail
  refine (c48 _).mono ?_
  rintro e w9 ⟨v9, rfl, hs9, hb9⟩
  have hI9 := Ints.below hI8 hb9
  have hL9 := Ints.below hL8 hb9
  have hW9 := Bools.below hW8 hb9
  have hB9 := Box.step hB8 hb9
  clear k0 k1 k2
  have k0 := hB9.k0
  have k1 := hB9.k1
  have k2 := hB9.k2
  obtain ⟨A9, c9, rfl, hK⟩ := hs9.lieA (n := nn) hlen
  go_wp2_with fail
  refine (c23 _ _ _ _ _ hL9 hK).mono ?_
  rintro e w10 ⟨rfl, z10, rfl⟩
  have hI10 := Ints.drewN hI9 z10
  have hL10 := Ints.drewN hL9 z10
  have hW10 := Bools.drewN hW9 z10
  have hB10 := Box.drewN hB9 z10
  clear k0 k1 k2
  have k0 := hB10.k0
  have k1 := hB10.k1
  have k2 := hB10.k2
  go_wp2_with fail
  refine (c49 _).mono ?_
  rintro e w11 ⟨rfl, hb11⟩
  have hI11 := Ints.below hI10 hb11
  have hL11 := Ints.below hL10 hb11
  have hW11 := Bools.below hW10 hb11
  have hB11 := Box.step hB10 hb11
  clear k0 k1 k2
  have k0 := hB11.k0
  have k1 := hB11.k1
  have k2 := hB11.k2
  go_wp2_with fail
  refine (c25 _).mono ?_
  rintro e w12 ⟨rfl, hb12⟩
  have hI12 := Ints.below hI11 hb12
  have hL12 := Ints.below hL11 hb12
  have hW12 := Bools.below hW11 hb12
  have hB12 := Box.step hB11 hb12
  clear k0 k1 k2
  have k0 := hB12.k0
  have k1 := hB12.k1
  have k2 := hB12.k2
  go_wp2_with fail
  refine (c28 _ _ _ hI12).mono ?_
  rintro e w13 ⟨rfl, z13, rfl⟩
  have hI13 := Ints.drewN hI12 z13
  have hL13 := Ints.drewN hL12 z13
  have hW13 := Bools.drewN hW12 z13
  have hB13 := Box.drewN hB12 z13
  clear k0 k1 k2
  have k0 := hB13.k0
  have k1 := hB13.k1
  have k2 := hB13.k2
  clear k0 k1 k2
  go_wp2
  go_ret
  exact ⟨rfl, hB13.below⟩

set_option maxRecDepth 100000 in
set_option maxHeartbeats 3200000 in
theorem pools_good_n_r (c17 : ∀ W, Ints W A p → Calls Try.prog 17 #[.slice A m c, .int .i64 30] W (RetInts l W)) (hA : Ints w A p) (hl : l.length ≤ 30) (I : Int) (h0 : 0 < I) (hI : itemsM q t n = I) (hi1 : 0 ≤ item) (hi : item < I) (hs : 100 < item) (hr : rsB I (-1) l = true) : Calls Try.prog 14 #[pools q t n, .int .i64 item, .slice A m c] w (Said true w) := by
  have hv := items_valid (q := q) (t := t) (n := n) (by omega)
  obtain ⟨v1, v2, v3, v4, v5, v6, v7⟩ := hv
  have hpb := prime_bd v1
  obtain ⟨hp1, hp2⟩ := hpb
  have hIe : q ^ t.toNat = I := by omega
  have hI2 : I ≤ 1000 := by omega
  obtain ⟨tn, rfl⟩ : ∃ tn : Nat, t = tn := ⟨t.toNat, by omega⟩
  obtain ⟨nn, rfl⟩ : ∃ nn : Nat, n = nn := ⟨n.toNat, by omega⟩
  obtain ⟨N, hN⟩ : ∃ N, nn * q.toNat = N := ⟨_, rfl⟩
  have c27 : ∀ W, Calls Try.prog 27 #[pools q tn nn, .int .i64 item] W (Ret2 (membersM q item tn nn) 0 W) := fun W => by
    have := Members_any q tn nn item W
    have e : membersR q tn nn item = ((membersM q item tn nn), 0) := by unfold membersR; rw [if_neg (by omega)]; rfl
    rwa [e] at this
  have c45 : ∀ W, Calls Try.prog 45 #[pools q tn nn, .int .i64 item] W fun e' w' => e' = .returned (.tuple #[.int .i64 0, .int .i64 1]) ∧ Below W.heap.size W w' := fun W => by
    have := Strength_any q tn nn item W
    have e : strR q tn nn item = (0, 1) := by unfold strR; rw [if_pos (by omega)]
    rwa [e] at this
  have c42 : ∀ W A c, Ints W A l → Calls Try.prog 42 #[pools q tn nn, .slice A l.length c] W (RetW (wetM q tn nn l) 0 W) := fun W A c hJ => (Wet_good q I tn nn l.length N A c l W ⟨hp1, hp2⟩ (by omega) ⟨by omega, by omega⟩ hN hI ⟨h0, hI2⟩ hJ rfl (by omega) hr).mono fun e w' ⟨g, he, ho, hb⟩ => ⟨some ⟨g, 0, none⟩, N, by rw [he, wetM_length, hN], ho.bools, hb⟩
  have c46 : ∀ W, Calls Try.prog 46 #[pools q tn nn] W (Said true W) := fun W => by
    have := refValid_any q tn nn W
    rwa [decide_eq_true (by omega)] at this
  have c47 : ∀ W, Calls Try.prog 47 #[pools q tn nn] W fun e w' => e = .returned (.int .i64 0) ∧ Below W.heap.size W w' := fun W => by
    have := Check_any q tn nn W
    rwa [if_neg (by omega)] at this
  have c25 : ∀ W, Calls Try.prog 25 #[pools q tn nn] W fun e w' => e = .returned (.int .i64 I) ∧ Below W.heap.size W w' := fun W => (refItems_any q tn nn W ⟨hp1, hp2⟩ ⟨v2, by omega⟩).mono fun e w' ⟨J, he, hj, _, hb⟩ => ⟨by rw [he, hj (by omega), hIe], hb⟩
  have c28 : ∀ W A c, Ints W A l → Calls Try.prog 28 #[.slice A l.length c, .int .i64 I] W fun e w' => e = .returned (.bool true) ∧ ∃ z, w' = W.drewN z := fun W A c hJ => by
    have := refRising_any A c l.length l I W hJ rfl (by omega) ⟨by omega, by omega⟩
    rwa [hr] at this
  have c48 : ∀ W, Calls Try.prog 48 #[pools q tn nn, .int .i64 item] W (RetInts (membersM q item tn nn) W) := fun W => (refMembers_own q item tn nn W ⟨hp1, hp2⟩ (by omega) (by omega) ⟨by omega, by omega⟩).mono fun _ _ h => h.ints
  have hlen := membersM_length q item tn nn
  have c23 : ∀ (W : World) A B c d, Ints W A (membersM q item tn nn) → Ints W B (membersM q item tn nn) → Calls Try.prog 23 #[.slice A nn c, .slice B nn d] W fun e w' => e = .returned (.bool true) ∧ ∃ z, w' = W.drewN z := fun W A B c d h1 h2 => by
    have := lawsame_any A B nn nn c d _ _ W h1 h2 hlen hlen (by omega) (by omega)
    simpa using this
  have hlw : (wetM q tn nn l).length = N := by rw [wetM_length, hN]
  have c51 : ∀ W A c, Ints W A l → Calls Try.prog 51 #[pools q tn nn, .slice A l.length c] W fun e w' => ∃ A c, e = .returned (.slice A N c) ∧ Bools w' A (wetM q tn nn l) ∧ Below W.heap.size W w' := fun W A c hJ => (refWet_any q I tn nn l.length N A c l W ⟨hp1, hp2⟩ (by omega) ⟨by omega, by omega⟩ hN (by omega) hJ rfl (by omega) hr).mono fun e w' ⟨g, he, ho, hb⟩ => ⟨some ⟨g, 0, none⟩, N, he, ho.bools, hb⟩
  have hNb : N ≤ 961 := by rw [← hN]; exact Nat.mul_le_mul (show nn ≤ 31 by omega) (show q.toNat ≤ 31 by omega)
  have c50 : ∀ (W : World) A B c d, Bools W A (wetM q tn nn l) → Bools W B (wetM q tn nn l) → Calls Try.prog 50 #[.slice A N c, .slice B N d] W fun e w' => e = .returned (.bool true) ∧ ∃ z, w' = W.drewN z := fun W A B c d h1 h2 => wets_same A B c d N _ W h1 h2 hlw (by omega)
  have hB := Box.new w q tn nn
  have hA0 := Ints.below hA ((Below.refl _ _).alloc (Nat.le_refl _) (.cells #[.int .i64 q, .int .i64 tn, .int .i64 nn] 35))
  clear hr hI v1 v6 v7 hIe hN
  generalize membersM q item tn nn = lm at *
  generalize wetM q tn nn l = wl at *
  go_enter Try.func14, Try.ntmps14
  go_wp2_with fail
  refine (c17 _ hA0).mono ?_
  rintro e w1 ⟨v1, rfl, hs1, hb1⟩
  obtain ⟨A1, c1, rfl, hI⟩ := hs1.lieA rfl
  have hB1 := hB.step hb1
  have k0 := hB1.k0
  have k1 := hB1.k1
  have k2 := hB1.k2
  go_wp2_with fail
  refine (c27 _).mono ?_
  rintro e w2 ⟨v2, rfl, hs2, hb2⟩
  obtain ⟨A2, c2, rfl, hL⟩ := hs2.lieA (n := nn) hlen
  have hB2 := hB1.step hb2
  have hI2 := Ints.below hI hb2
  clear k0 k1 k2
  have k0 := hB2.k0
  have k1 := hB2.k1
  have k2 := hB2.k2
  go_wp2_with fail
  refine (c45 _).mono ?_
  rintro e w3 ⟨rfl, hb3⟩
  have hB3 := hB2.step hb3
  have hI3 := Ints.below hI2 hb3
  have hL3 := Ints.below hL hb3
  clear k0 k1 k2
  have k0 := hB3.k0
  have k1 := hB3.k1
  have k2 := hB3.k2
  go_wp2_with fail
  refine (c42 _ _ _ hI3).mono ?_
  rintro e w4 ⟨A4, c4, rfl, hW, hb4⟩
  have hB4 := hB3.step hb4
  have hI4 := Ints.below hI3 hb4
  have hL4 := Ints.below hL3 hb4
  clear k0 k1 k2
  have k0 := hB4.k0
  have k1 := hB4.k1
  have k2 := hB4.k2
  rw [hlw]
  go_wp2_with fail
  refine (c46 _).mono ?_
  rintro e w5 ⟨rfl, hb5⟩
  have hB5 := hB4.step hb5
  have hI5 := Ints.below hI4 hb5
  have hL5 := Ints.below hL4 hb5
  have hW5 := Bools.below hW hb5
  clear k0 k1 k2
  have k0 := hB5.k0
  have k1 := hB5.k1
  have k2 := hB5.k2
  go_wp2_with fail
  refine (c47 _).mono ?_
  rintro e w6 ⟨rfl, hb6⟩
  have hB6 := hB5.step hb6
  have hI6 := Ints.below hI5 hb6
  have hL6 := Ints.below hL5 hb6
  have hW6 := Bools.below hW5 hb6
  clear k0 k1 k2
  go_wp2_with fail
  refine (lives_any _).mono ?_
  rintro e w7 ⟨rfl, hb7⟩
  have hB7 := hB6.step hb7
  have hI7 := Ints.below hI6 hb7
  have hL7 := Ints.below hL6 hb7
  have hW7 := Bools.below hW6 hb7
  have k0 := hB7.k0
  have k1 := hB7.k1
  have k2 := hB7.k2
  go_wp2_with fail
  refine (c25 _).mono ?_
  rintro e w8 ⟨rfl, hb8⟩
  have hI8 := Ints.below hI7 hb8
  have hL8 := Ints.below hL7 hb8
  have hW8 := Bools.below hW7 hb8
  have hB8 := Box.step hB7 hb8
  clear k0 k1 k2
  have k0 := hB8.k0
  have k1 := hB8.k1
  have k2 := hB8.k2
  go_wp2_with fail
  refine (c48 _).mono ?_
  rintro e w9 ⟨v9, rfl, hs9, hb9⟩
  have hI9 := Ints.below hI8 hb9
  have hL9 := Ints.below hL8 hb9
  have hW9 := Bools.below hW8 hb9
  have hB9 := Box.step hB8 hb9
  clear k0 k1 k2
  have k0 := hB9.k0
  have k1 := hB9.k1
  have k2 := hB9.k2
  obtain ⟨A9, c9, rfl, hK⟩ := hs9.lieA (n := nn) hlen
  go_wp2_with fail
  refine (c23 _ _ _ _ _ hL9 hK).mono ?_
  rintro e w10 ⟨rfl, z10, rfl⟩
  have hI10 := Ints.drewN hI9 z10
  have hL10 := Ints.drewN hL9 z10
  have hW10 := Bools.drewN hW9 z10
  have hB10 := Box.drewN hB9 z10
  clear k0 k1 k2
  have k0 := hB10.k0
  have k1 := hB10.k1
  have k2 := hB10.k2
  go_wp2_with fail
  refine (c25 _).mono ?_
  rintro e w11 ⟨rfl, hb11⟩
  have hI11 := Ints.below hI10 hb11
  have hL11 := Ints.below hL10 hb11
  have hW11 := Bools.below hW10 hb11
  have hB11 := Box.step hB10 hb11
  clear k0 k1 k2
  have k0 := hB11.k0
  have k1 := hB11.k1
  have k2 := hB11.k2
  go_wp2_with fail
  refine (c28 _ _ _ hI11).mono ?_
  rintro e w12 ⟨rfl, z12, rfl⟩
  have hI12 := Ints.drewN hI11 z12
  have hL12 := Ints.drewN hL11 z12
  have hW12 := Bools.drewN hW11 z12
  have hB12 := Box.drewN hB11 z12
  clear k0 k1 k2
  have k0 := hB12.k0
  have k1 := hB12.k1
  have k2 := hB12.k2
  go_wp2_with fail
  refine (c51 _ _ _ hI12).mono ?_
  rintro e w13 ⟨A13, c13, rfl, hV, hb13⟩
  have hI13 := Ints.below hI12 hb13
  have hL13 := Ints.below hL12 hb13
  have hW13 := Bools.below hW12 hb13
  have hB13 := Box.step hB12 hb13
  clear k0 k1 k2
  have k0 := hB13.k0
  have k1 := hB13.k1
  have k2 := hB13.k2
  go_wp2_with fail
  refine (c50 _ _ _ _ _ hW13 hV).mono ?_
  rintro e w14 ⟨rfl, z14, rfl⟩
  have hI14 := Ints.drewN hI13 z14
  have hL14 := Ints.drewN hL13 z14
  have hW14 := Bools.drewN hW13 z14
  have hB14 := Box.drewN hB13 z14
  clear k0 k1 k2
  have k0 := hB14.k0
  have k1 := hB14.k1
  have k2 := hB14.k2
  clear k0 k1 k2
  go_wp2
  go_ret
  exact ⟨rfl, hB14.below⟩

set_option maxRecDepth 100000 in
set_option maxHeartbeats 3200000 in
theorem pools_good_n_f (c17 : ∀ W, Ints W A p → Calls Try.prog 17 #[.slice A m c, .int .i64 30] W (RetInts l W)) (hA : Ints w A p) (hl : l.length ≤ 30) (I : Int) (h0 : 0 < I) (hI : itemsM q t n = I) (hi1 : 0 ≤ item) (hi : item < I) (hs : 100 < item) (hr : rsB I (-1) l = false) : Calls Try.prog 14 #[pools q t n, .int .i64 item, .slice A m c] w (Said true w) := by
  have hv := items_valid (q := q) (t := t) (n := n) (by omega)
  obtain ⟨v1, v2, v3, v4, v5, v6, v7⟩ := hv
  have hpb := prime_bd v1
  obtain ⟨hp1, hp2⟩ := hpb
  have hIe : q ^ t.toNat = I := by omega
  have hI2 : I ≤ 1000 := by omega
  obtain ⟨tn, rfl⟩ : ∃ tn : Nat, t = tn := ⟨t.toNat, by omega⟩
  obtain ⟨nn, rfl⟩ : ∃ nn : Nat, n = nn := ⟨n.toNat, by omega⟩
  obtain ⟨N, hN⟩ : ∃ N, nn * q.toNat = N := ⟨_, rfl⟩
  have c27 : ∀ W, Calls Try.prog 27 #[pools q tn nn, .int .i64 item] W (Ret2 (membersM q item tn nn) 0 W) := fun W => by
    have := Members_any q tn nn item W
    have e : membersR q tn nn item = ((membersM q item tn nn), 0) := by unfold membersR; rw [if_neg (by omega)]; rfl
    rwa [e] at this
  have c45 : ∀ W, Calls Try.prog 45 #[pools q tn nn, .int .i64 item] W fun e' w' => e' = .returned (.tuple #[.int .i64 0, .int .i64 1]) ∧ Below W.heap.size W w' := fun W => by
    have := Strength_any q tn nn item W
    have e : strR q tn nn item = (0, 1) := by unfold strR; rw [if_pos (by omega)]
    rwa [e] at this
  have c42 : ∀ W A c, Ints W A l → Calls Try.prog 42 #[pools q tn nn, .slice A l.length c] W (RetW [] 1 W) := fun W A c hJ => Wet_bad q tn nn A c l.length l W hJ rfl (by omega) (.inr (by rw [hI]; exact hr))
  have c46 : ∀ W, Calls Try.prog 46 #[pools q tn nn] W (Said true W) := fun W => by
    have := refValid_any q tn nn W
    rwa [decide_eq_true (by omega)] at this
  have c47 : ∀ W, Calls Try.prog 47 #[pools q tn nn] W fun e w' => e = .returned (.int .i64 0) ∧ Below W.heap.size W w' := fun W => by
    have := Check_any q tn nn W
    rwa [if_neg (by omega)] at this
  have c25 : ∀ W, Calls Try.prog 25 #[pools q tn nn] W fun e w' => e = .returned (.int .i64 I) ∧ Below W.heap.size W w' := fun W => (refItems_any q tn nn W ⟨hp1, hp2⟩ ⟨v2, by omega⟩).mono fun e w' ⟨J, he, hj, _, hb⟩ => ⟨by rw [he, hj (by omega), hIe], hb⟩
  have c28 : ∀ W A c, Ints W A l → Calls Try.prog 28 #[.slice A l.length c, .int .i64 I] W fun e w' => e = .returned (.bool false) ∧ ∃ z, w' = W.drewN z := fun W A c hJ => by
    have := refRising_any A c l.length l I W hJ rfl (by omega) ⟨by omega, by omega⟩
    rwa [hr] at this
  have c48 : ∀ W, Calls Try.prog 48 #[pools q tn nn, .int .i64 item] W (RetInts (membersM q item tn nn) W) := fun W => (refMembers_own q item tn nn W ⟨hp1, hp2⟩ (by omega) (by omega) ⟨by omega, by omega⟩).mono fun _ _ h => h.ints
  have hlen := membersM_length q item tn nn
  have c23 : ∀ (W : World) A B c d, Ints W A (membersM q item tn nn) → Ints W B (membersM q item tn nn) → Calls Try.prog 23 #[.slice A nn c, .slice B nn d] W fun e w' => e = .returned (.bool true) ∧ ∃ z, w' = W.drewN z := fun W A B c d h1 h2 => by
    have := lawsame_any A B nn nn c d _ _ W h1 h2 hlen hlen (by omega) (by omega)
    simpa using this
  have hB := Box.new w q tn nn
  have hA0 := Ints.below hA ((Below.refl _ _).alloc (Nat.le_refl _) (.cells #[.int .i64 q, .int .i64 tn, .int .i64 nn] 35))
  clear hr hI v1 v6 v7 hIe hN
  generalize membersM q item tn nn = lm at *
  go_enter Try.func14, Try.ntmps14
  go_wp2_with fail
  refine (c17 _ hA0).mono ?_
  rintro e w1 ⟨v1, rfl, hs1, hb1⟩
  obtain ⟨A1, c1, rfl, hI⟩ := hs1.lieA rfl
  have hB1 := hB.step hb1
  have k0 := hB1.k0
  have k1 := hB1.k1
  have k2 := hB1.k2
  go_wp2_with fail
  refine (c27 _).mono ?_
  rintro e w2 ⟨v2, rfl, hs2, hb2⟩
  obtain ⟨A2, c2, rfl, hL⟩ := hs2.lieA (n := nn) hlen
  have hB2 := hB1.step hb2
  have hI2 := Ints.below hI hb2
  clear k0 k1 k2
  have k0 := hB2.k0
  have k1 := hB2.k1
  have k2 := hB2.k2
  go_wp2_with fail
  refine (c45 _).mono ?_
  rintro e w3 ⟨rfl, hb3⟩
  have hB3 := hB2.step hb3
  have hI3 := Ints.below hI2 hb3
  have hL3 := Ints.below hL hb3
  clear k0 k1 k2
  have k0 := hB3.k0
  have k1 := hB3.k1
  have k2 := hB3.k2
  go_wp2_with fail
  refine (c42 _ _ _ hI3).mono ?_
  rintro e w4 ⟨A4, c4, rfl, hW, hb4⟩
  have hB4 := hB3.step hb4
  have hI4 := Ints.below hI3 hb4
  have hL4 := Ints.below hL3 hb4
  clear k0 k1 k2
  have k0 := hB4.k0
  have k1 := hB4.k1
  have k2 := hB4.k2

  go_wp2_with fail
  refine (c46 _).mono ?_
  rintro e w5 ⟨rfl, hb5⟩
  have hB5 := hB4.step hb5
  have hI5 := Ints.below hI4 hb5
  have hL5 := Ints.below hL4 hb5
  have hW5 := Bools.below hW hb5
  clear k0 k1 k2
  have k0 := hB5.k0
  have k1 := hB5.k1
  have k2 := hB5.k2
  go_wp2_with fail
  refine (c47 _).mono ?_
  rintro e w6 ⟨rfl, hb6⟩
  have hB6 := hB5.step hb6
  have hI6 := Ints.below hI5 hb6
  have hL6 := Ints.below hL5 hb6
  have hW6 := Bools.below hW5 hb6
  clear k0 k1 k2
  go_wp2_with fail
  refine (lives_any _).mono ?_
  rintro e w7 ⟨rfl, hb7⟩
  have hB7 := hB6.step hb7
  have hI7 := Ints.below hI6 hb7
  have hL7 := Ints.below hL6 hb7
  have hW7 := Bools.below hW6 hb7
  have k0 := hB7.k0
  have k1 := hB7.k1
  have k2 := hB7.k2
  go_wp2_with fail
  refine (c25 _).mono ?_
  rintro e w8 ⟨rfl, hb8⟩
  have hI8 := Ints.below hI7 hb8
  have hL8 := Ints.below hL7 hb8
  have hW8 := Bools.below hW7 hb8
  have hB8 := Box.step hB7 hb8
  clear k0 k1 k2
  have k0 := hB8.k0
  have k1 := hB8.k1
  have k2 := hB8.k2
  go_wp2_with fail
  refine (c48 _).mono ?_
  rintro e w9 ⟨v9, rfl, hs9, hb9⟩
  have hI9 := Ints.below hI8 hb9
  have hL9 := Ints.below hL8 hb9
  have hW9 := Bools.below hW8 hb9
  have hB9 := Box.step hB8 hb9
  clear k0 k1 k2
  have k0 := hB9.k0
  have k1 := hB9.k1
  have k2 := hB9.k2
  obtain ⟨A9, c9, rfl, hK⟩ := hs9.lieA (n := nn) hlen
  go_wp2_with fail
  refine (c23 _ _ _ _ _ hL9 hK).mono ?_
  rintro e w10 ⟨rfl, z10, rfl⟩
  have hI10 := Ints.drewN hI9 z10
  have hL10 := Ints.drewN hL9 z10
  have hW10 := Bools.drewN hW9 z10
  have hB10 := Box.drewN hB9 z10
  clear k0 k1 k2
  have k0 := hB10.k0
  have k1 := hB10.k1
  have k2 := hB10.k2
  go_wp2_with fail
  refine (c25 _).mono ?_
  rintro e w11 ⟨rfl, hb11⟩
  have hI11 := Ints.below hI10 hb11
  have hL11 := Ints.below hL10 hb11
  have hW11 := Bools.below hW10 hb11
  have hB11 := Box.step hB10 hb11
  clear k0 k1 k2
  have k0 := hB11.k0
  have k1 := hB11.k1
  have k2 := hB11.k2
  go_wp2_with fail
  refine (c28 _ _ _ hI11).mono ?_
  rintro e w12 ⟨rfl, z12, rfl⟩
  have hI12 := Ints.drewN hI11 z12
  have hL12 := Ints.drewN hL11 z12
  have hW12 := Bools.drewN hW11 z12
  have hB12 := Box.drewN hB11 z12
  clear k0 k1 k2
  have k0 := hB12.k0
  have k1 := hB12.k1
  have k2 := hB12.k2
  clear k0 k1 k2
  go_wp2
  go_ret
  exact ⟨rfl, hB12.below⟩

theorem pools_any (hA : Ints w A p) (hn : p.length = m) (hnc : m ≤ c) (hnil : A = none → c = 0) :
    Calls Try.prog 14 #[pools q t n, .int .i64 item, .slice A m c] w (Said true w) := by
  have c17 : ∀ W, Ints W A p → Calls Try.prog 17 #[.slice A m c, .int .i64 30] W (RetInts (p.take 30) W) := fun W h => cut_any A m c 30 30 p W h hn hnc rfl (by omega) hnil
  have hl : (p.take 30).length ≤ 30 := by simp; omega
  generalize p.take 30 = l at *
  obtain ⟨I, hI⟩ : ∃ I, itemsM q t n = I := ⟨_, rfl⟩
  have hI0 : itemsM q t n = 0 ∨ 0 < itemsM q t n := by
    by_cases hc : primeB q = true ∧ 1 ≤ t ∧ t ≤ q ∧ t ≤ n ∧ n ≤ q ∧ q ^ t.toNat ≤ 1000
    · right
      rw [items_pow hc]
      have := prime_bd hc.1
      have := pow_bd (q := q) (by omega) t.toNat
      omega
    · exact .inl (items_zero hc)
  rcases hI0 with h0 | h0
  · exact pools_bad q t n item A c m p l w c17 hA hl h0
  rw [hI] at h0
  cases hr : rsB I (-1) l with
  | true =>
    by_cases h1 : item < 0
    · exact pools_neg_n_r q t n item A c m p l w c17 hA hl I h0 hI h1 hr
    · by_cases h2 : I ≤ item
      · by_cases h3 : item ≤ 100
        · exact pools_big_s_r q t n item A c m p l w c17 hA hl I h0 hI (by omega) h2 h3 hr
        · exact pools_big_n_r q t n item A c m p l w c17 hA hl I h0 hI (by omega) h2 (by omega) hr
      · by_cases h3 : item ≤ 100
        · exact pools_good_s_r q t n item A c m p l w c17 hA hl I h0 hI (by omega) (by omega) h3 hr
        · exact pools_good_n_r q t n item A c m p l w c17 hA hl I h0 hI (by omega) (by omega) (by omega) hr
  | false =>
    by_cases h1 : item < 0
    · exact pools_neg_n_f q t n item A c m p l w c17 hA hl I h0 hI h1 hr
    · by_cases h2 : I ≤ item
      · by_cases h3 : item ≤ 100
        · exact pools_big_s_f q t n item A c m p l w c17 hA hl I h0 hI (by omega) h2 h3 hr
        · exact pools_big_n_f q t n item A c m p l w c17 hA hl I h0 hI (by omega) h2 (by omega) hr
      · by_cases h3 : item ≤ 100
        · exact pools_good_s_f q t n item A c m p l w c17 hA hl I h0 hI (by omega) (by omega) h3 hr
        · exact pools_good_n_f q t n item A c m p l w c17 hA hl I h0 hI (by omega) (by omega) (by omega) hr
end
end Go.Proofs.Ytneliejncfncdaa
