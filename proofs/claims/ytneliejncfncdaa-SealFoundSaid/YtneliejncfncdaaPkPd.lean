/- Texts Pd in one. -/
import Derived.Test.YtneliejncfncdaaPkPa
import Derived.Test.YtneliejncfncdaaPkMa
import Derived.Test.YtneliejncfncdaaPkGa
import Derived.Test.YtneliejncfncdaaPkFa
namespace Go.Proofs.Ytneliejncfncdaa
open Go.RowKit

theorem items_pos_of {q : Int} {t n : Nat} (hq : primeB q = true) (ht : 1 ≤ t ∧ (t : Int) ≤ q) (hn : (t : Int) ≤ n ∧ (n : Int) ≤ q) (hP : q ^ t ≤ 1000) : itemsM q t n = q ^ t := by
  have := items_pow (q := q) (t := t) (n := n) ⟨hq, by omega, ht.2, hn.1, hn.2, by simpa using hP⟩
  simpa using this
theorem Members_good {q : Int} {t n : Nat} (hq : primeB q = true) (ht : 1 ≤ t ∧ (t : Int) ≤ q) (hn : (t : Int) ≤ n ∧ (n : Int) ≤ q) (hP : q ^ t ≤ 1000) (k : Int) (hk : 0 ≤ k ∧ k < q ^ t) (W : World) :
    Calls Try.prog 27 #[pools q t n, .int .i64 k] W (Ret2 (membersM q k t n) 0 W) := by
  have := Members_any q t n k W
  have e : membersR q t n k = (membersM q k t n, 0) := by
    unfold membersR
    rw [items_pos_of hq ht hn hP, if_neg (by omega)]
    simp
  rwa [e] at this
theorem Items_good {q : Int} {t n : Nat} (hq : primeB q = true) (ht : 1 ≤ t ∧ (t : Int) ≤ q) (hP : q ^ t ≤ 1000) (W : World) :
    Calls Try.prog 25 #[pools q t n] W fun e w' => e = .returned (.int .i64 (q ^ t)) ∧ Below W.heap.size W w' := by
  have := prime_bd hq
  exact (refItems_any q t n W ⟨by omega, by omega⟩ ⟨by omega, by omega⟩).mono fun e w' ⟨J, he, hj, _, hb⟩ => ⟨by rw [he, hj (by simpa using hP)]; simp, hb⟩

section
variable (q0 t0 n0 x0 x1 x2 : Int) (w : World)

set_option maxRecDepth 100000 in
set_option maxHeartbeats 3200000 in
theorem share_any (hq0 : I64 q0) (ht0 : I64 t0) (hn0 : I64 n0) (hx0 : I64 x0) (hx1 : I64 x1) (hx2 : I64 x2) :
    Calls Try.prog 4 #[pools q0 t0 n0, .agg #[.int .i64 x0, .int .i64 x1, .int .i64 x2]] w (Said true w) := by
  have c24 : ∀ W, Calls Try.prog 24 #[pools q0 t0 n0] W fun e w' => e = .returned (pools (tameQ q0) (tameT q0 t0) (tameN q0 t0 n0)) ∧ Below W.heap.size W w' := fun W => tamed_any q0 t0 n0 W hq0 ht0 hn0
  have hf := tame_facts q0 t0 n0
  obtain ⟨f1, f2, f3, f4, f5, f6, f7, f8⟩ := hf
  have hpow := tame_pow ⟨f2, f3⟩ ⟨f4, f5⟩
  generalize tameN q0 t0 n0 = n at *
  generalize tameT q0 t0 = t at *
  generalize tameQ q0 = q at *
  obtain ⟨tn, rfl⟩ : ∃ tn : Nat, t = tn := ⟨t.toNat, by omega⟩
  obtain ⟨nn, rfl⟩ : ∃ nn : Nat, n = nn := ⟨n.toNat, by omega⟩
  rw [Int.toNat_natCast] at hpow
  have c27 := fun k hk W => Members_good (q := q) (t := tn) (n := nn) f1 ⟨by omega, by omega⟩ ⟨by omega, by omega⟩ (by omega) k hk W
  have c25 : ∀ W, Calls Try.prog 25 #[pools q tn nn] W fun e w' => e = .returned (.int .i64 (q ^ tn)) ∧ Below W.heap.size W w' := fun W => Items_good f1 ⟨by omega, by omega⟩ (by omega) W
  have hpos : 0 < q ^ tn := Int.pow_pos (by omega)
  have hcount := fun (pool : Int) hp K => pool_count (q := q) ⟨f2, f3⟩ tn nn (by omega) (pool := pool) hp K
  have hshare := fun (a b : Int) ha hb hne => share_count (q := q) (a := a) (b := b) (t := tn) (n := nn) f1 (by omega) (by omega) ha hb hne
  have hIK : ∃ K : Nat, q.toNat * K = (q ^ tn).toNat ∧ q ^ tn = K * q := by
    obtain ⟨s, rfl⟩ : ∃ s, tn = s + 1 := ⟨tn - 1, by omega⟩
    have h0 : 0 ≤ q ^ s := Int.le_of_lt (Int.pow_pos (by omega))
    obtain ⟨K, hK⟩ := Int.eq_ofNat_of_zero_le h0
    refine ⟨K, ?_, by rw [Int.pow_succ, hK]⟩
    rw [Int.pow_succ, hK]
    obtain ⟨Q, rfl⟩ := Int.eq_ofNat_of_zero_le (show 0 ≤ q by omega)
    rw [Int.toNat_natCast]
    have : ((K : Int) * Q) = ((Q * K : Nat) : Int) := by push_cast; grind
    rw [this, Int.toNat_natCast]
  obtain ⟨K, hK1, hK2⟩ := hIK
  have hI1000 : q ^ tn ≤ 343 := hpow
  generalize hI : q ^ tn = I at *
  obtain ⟨In, rfl⟩ : ∃ In : Nat, I = In := ⟨I.toNat, by omega⟩
  rw [Int.toNat_natCast] at hK1
  have HI := Lib.hid hI
  have HK1 := Lib.hid hK1
  have HK2 := Lib.hid hK2
  clear hI hK1 hK2 hpow
  -- the boxes
  obtain ⟨W0, hW0⟩ : ∃ W0, W0 = (w.alloc (.cells #[.int .i64 q0, .int .i64 t0, .int .i64 n0] 35)).alloc (.cells #[.int .i64 x0, .int .i64 x1, .int .i64 x2] 36) := ⟨_, rfl⟩
  have hb0 : Below w.heap.size w W0 := by rw [hW0]; exact ((Below.refl _ _).alloc (Nat.le_refl _) _).alloc (by simp) _
  have hs0 : W0.heap.size = w.heap.size + 2 := by rw [hW0]; simp
  have p0 : W0.cell? ⟨w.heap.size + 1, 0, none⟩ = some (.int .i64 x0) := by rw [hW0]; simp [go_sem]
  have p1 : W0.cell? ⟨w.heap.size + 1, 1, none⟩ = some (.int .i64 x1) := by rw [hW0]; simp [go_sem]
  have p2 : W0.cell? ⟨w.heap.size + 1, 2, none⟩ = some (.int .i64 x2) := by rw [hW0]; simp [go_sem]
  have HW0 := Lib.hid hW0
  clear hW0
  have c26a : ∀ W, Calls Try.prog 26 #[.int .i64 x0, .int .i64 In] W fun e w' => e = .returned (.int .i64 (x0 % In)) ∧ w' = W := fun W => fold_any x0 In W hx0 ⟨by omega, by omega⟩
  have c26b : ∀ W, Calls Try.prog 26 #[.int .i64 x1, .int .i64 In] W fun e w' => e = .returned (.int .i64 (x1 % In)) ∧ w' = W := fun W => fold_any x1 In W hx1 ⟨by omega, by omega⟩
  have hnq1 : 0 < (nn : Int) * q := Int.mul_pos (by omega) (by omega)
  have hnq2 : (nn : Int) * q ≤ 7 * 7 := Int.mul_le_mul (by omega) f3 (by omega) (by omega)
  have c26c : ∀ W, Calls Try.prog 26 #[.int .i64 x2, .int .i64 (nn * q)] W fun e w' => e = .returned (.int .i64 (x2 % (nn * q))) ∧ w' = W := fun W => fold_any x2 (nn * q) W hx2 ⟨by omega, by omega⟩
  have ha1 := Int.emod_nonneg x0 (show (In : Int) ≠ 0 by omega)
  have ha2 := Int.emod_lt_of_pos x0 (show (0 : Int) < In by omega)
  have hc1 := Int.emod_nonneg x1 (show (In : Int) ≠ 0 by omega)
  have hc2 := Int.emod_lt_of_pos x1 (show (0 : Int) < In by omega)
  have hd1 := Int.emod_nonneg x2 (show (nn : Int) * q ≠ 0 by omega)
  have hd2 := Int.emod_lt_of_pos x2 (show (0 : Int) < (nn : Int) * q by omega)
  generalize x0 % (In : Int) = a at *
  generalize x1 % (In : Int) = b at *
  generalize x2 % ((nn : Int) * q) = pool at *
  have hw1 : IntKind.i64.wrap ((nn : Int) * q) = nn * q := IntWalk.i64_in _ (by
    have h1 : 0 ≤ (nn : Int) * q := Int.mul_nonneg (by omega) (by omega)
    have h2 : (nn : Int) * q ≤ 7 * 7 := Int.mul_le_mul (by omega) f3 (by omega) (by omega)
    omega)
  go_enter Try.func4, Try.ntmps4
  go_wp2_with fail
  rw [← HW0.out]
  refine (c24 _).mono ?_
  rintro e w1 ⟨rfl, hb1⟩
  have p0' := (hb1.cell (p := ⟨w.heap.size + 1, 0, none⟩) (by simp; omega)).trans p0
  have p1' := (hb1.cell (p := ⟨w.heap.size + 1, 1, none⟩) (by simp; omega)).trans p1
  have p2' := (hb1.cell (p := ⟨w.heap.size + 1, 2, none⟩) (by simp; omega)).trans p2
  have hs1 := hb1.size
  have hB1 := hb0.trans (hb1.mono (by omega))
  clear p0 p1 p2 hb0 hb1 c24
  go_wp2_with fail
  refine (c25 _).mono ?_
  rintro e w2 ⟨rfl, hb2⟩
  have hX2 := (Box.new w1 q tn nn).step hb2
  have hba2 := ((Below.refl w1.heap.size w1).alloc (Nat.le_refl _) (.cells #[.int .i64 q, .int .i64 tn, .int .i64 nn] 35)).trans (hb2.mono (by simp))
  have r0 := (hba2.cell (p := ⟨w.heap.size + 1, 0, none⟩) (by simp; omega)).trans p0'
  have r1 := (hba2.cell (p := ⟨w.heap.size + 1, 1, none⟩) (by simp; omega)).trans p1'
  have r2 := (hba2.cell (p := ⟨w.heap.size + 1, 2, none⟩) (by simp; omega)).trans p2'
  have k0 := hX2.k0
  have k1 := hX2.k1
  have k2 := hX2.k2
  have hB2 := hB1.trans (hba2.mono (by omega))
  have HX2 := Lib.hid hX2
  have HB2 := Lib.hid hB2
  clear p0' p1' p2' hb2 hba2 hX2 hB2 hB1 HW0
  go_wp2
  go_quiet (first | (go_at_call_of 26 (Value.int .i64 x0); exact Calls.quiet_of_same (c26a _)) | (go_at_call_of 26 (Value.int .i64 x1); exact Calls.quiet_of_same (c26b _)) | (go_at_call_of 26 (Value.int .i64 x2); exact Calls.quiet_of_same (c26c _)))
  have hX3 := HX2.out.drewN nq
  have hB3 := HB2.out.drewN nq
  obtain ⟨w3, hw3⟩ : ∃ w3, w3 = w2.drewN nq := ⟨_, rfl⟩
  rw [← hw3] at hX3 hB3 ⊢
  clear hw3 k0 k1 k2 r0 r1 r2 HX2 HB2 hw1 c26a c26b c26c
  have c27a := c27 a ⟨ha1, by omega⟩
  have c27b := c27 b ⟨hc1, by omega⟩
  have hla := membersM_length q a tn nn
  have hlb := membersM_length q b tn nn
  have hrise : rsB ((nn : Int) * q) (-1) (membersM q a tn nn) = true := members_rise (by omega) _ nn nn (Nat.le_refl _)
  have hS1 : a ≠ b → cntN (fun i => decide ((membersM q a tn nn).getD i 0 ∈ membersM q b tn nn)) nn ≤ tn - 1 := fun hne => hshare a b ⟨ha1, by have := HI.out; omega⟩ ⟨hc1, by have := HI.out; omega⟩ hne
  have hS2 : a = b → cntN (fun i => decide ((membersM q a tn nn).getD i 0 ∈ membersM q b tn nn)) nn = nn := fun h => by subst h; exact share_self q a tn nn
  have hcP := hcount pool ⟨hd1, hd2⟩ K
  generalize membersM q a tn nn = la at *
  generalize membersM q b tn nn = lb at *
  have c28 : ∀ W A c, Ints W A la → Calls Try.prog 28 #[.slice A nn c, .int .i64 (nn * q)] W fun e w' => e = .returned (.bool true) ∧ ∃ z, w' = W.drewN z := fun W A c hJ => by
    have := refRising_any A c nn la (nn * q) W hJ hla (by omega) ⟨by omega, by omega⟩
    rwa [hrise] at this
  have c29 : ∀ (y : Int) W A c, Ints W A lb → Calls Try.prog 29 #[.slice A nn c, .int .i64 y] W fun e w' => e = .returned (.bool (decide (y ∈ lb))) ∧ W = w' := fun y W A c hJ => (has_any A c nn lb y W hJ hlb (by omega)).mono fun e w' h => ⟨h.1, h.2.symm⟩
  have c29b : ∀ (l : List Int) W A c, l.length = nn → Ints W A l → Calls Try.prog 29 #[.slice A nn c, .int .i64 pool] W fun e w' => e = .returned (.bool (decide (pool ∈ l))) ∧ W = w' := fun l W A c hl hJ => (has_any A c nn l pool W hJ hl (by omega)).mono fun e w' h => ⟨h.1, h.2.symm⟩
  have HLA := Lib.hid hla
  have HLB := Lib.hid hlb
  have HS1 := Lib.hid hS1
  have HS2 := Lib.hid hS2
  have HCP := Lib.hid hcP
  clear hla hlb hS1 hS2 hcP hrise hshare hcount
  have k0 := hX3.k0
  have k1 := hX3.k1
  have k2 := hX3.k2
  go_wp2_with fail
  refine (c27a _).mono ?_
  rintro e w4 ⟨v4, rfl, hs4, hb4⟩
  obtain ⟨A4, c4, rfl, hL4⟩ := hs4.lieA HLA.out
  have hX4 := hX3.step hb4
  have hB4 := hB3.trans (hb4.mono hB3.size)
  clear k0 k1 k2 hb4 hX3 hB3
  have k0 := hX4.k0
  have k1 := hX4.k1
  have k2 := hX4.k2
  go_wp2_with fail
  refine (c27b _).mono ?_
  rintro e w5 ⟨v5, rfl, hs5, hb5⟩
  obtain ⟨A5, c5, rfl, hM5⟩ := hs5.lieA HLB.out
  have hX5 := hX4.step hb5
  have hB5 := hB4.trans (hb5.mono hB4.size)
  have hL5 := Ints.below hL4 hb5
  clear k0 k1 k2 hb5 hX4 hB4 hL4
  have k0 := hX5.k0
  have k1 := hX5.k1
  have k2 := hX5.k2
  have hw1 : IntKind.i64.wrap ((nn : Int) * q) = nn * q := IntWalk.i64_in _ (by omega)
  go_wp2_with fail
  refine (c28 _ _ _ hL5).mono ?_
  rintro e w6 ⟨rfl, z6, rfl⟩
  go_wp2_with fail
  refine (lives_any _).mono ?_
  rintro e w7 ⟨rfl, hb7⟩
  have hX7 := (hX5.drewN z6).step hb7
  have hB7 := (hB5.drewN z6).trans (hb7.mono (by simpa using hB5.size))
  have hL7 : Ints w7 A4 la := Ints.below (Ints.drewN hL5 z6) hb7
  have hM7 : Ints w7 A5 lb := Ints.below (Ints.drewN hM5 z6) hb7
  clear k0 k1 k2 hb7 hX5 hB5 hL5 hM5 hw1
  have k0 := hX7.k0
  have k1 := hX7.k1
  have k2 := hX7.k2
  go_wp2
  go_loop [14, 15] (fun s i => ∃ k : Nat, k ≤ nn ∧ i = .int .i64 k ∧ s = .int .i64 (cntN (fun i => decide (la.getD i 0 ∈ lb)) k : Nat)) (fun _ i => nn - (intOf i).toNat)
  case atStart => exact ⟨0, by omega, rfl, rfl⟩
  case round =>
    obtain ⟨k, hk, rfl, rfl⟩ := hrel
    by_cases hlt : k < nn
    · obtain ⟨bb, o, rfl, hbb, hcc⟩ := hL7.get (k := k) (by rw [HLA.out]; exact hlt)
      have hcl := cntN_le (fun i => decide (la.getD i 0 ∈ lb)) k
      have hcs : cntN (fun i => decide (la.getD i 0 ∈ lb)) (k + 1) = cntN (fun i => decide (la.getD i 0 ∈ lb)) k + (if decide (la[k]'(by rw [HLA.out]; exact hlt) ∈ lb) = true then 1 else 0) := by
        rw [cntN, getD_get (by rw [HLA.out]; exact hlt)]
      have c1 := c29 (la[k]'(by rw [HLA.out]; exact hlt)) w7 _ c5 hM7
      generalize la[k]'(by rw [HLA.out]; exact hlt) = y at *
      cases hd : decide (y ∈ lb) with
      | true =>
        rw [hd] at hcs c1
        have HCS := Lib.hid hcs
        clear hcs hd
        generalize cntN (fun i => decide (la.getD i 0 ∈ lb)) k = s at *
        go_wp2_with (go_at_call 29; refine c1.mono ?_; rintro e w' ⟨rfl, rfl⟩)
        go_round
        case rel => exact ⟨k + 1, by omega, by go_num, by rw [HCS.out]; go_num⟩
        case measure => simp [intOf]; omega
      | false =>
        rw [hd] at hcs c1
        have HCS := Lib.hid hcs
        clear hcs hd
        generalize cntN (fun i => decide (la.getD i 0 ∈ lb)) k = s at *
        go_wp2_with (go_at_call 29; refine c1.mono ?_; rintro e w' ⟨rfl, rfl⟩)
        go_round
        case rel => exact ⟨k + 1, by omega, by go_num, by rw [HCS.out]; rfl⟩
        case measure => simp [intOf]; omega
    · obtain rfl : k = nn := by omega
      have hs1 := HS1.out
      have hs2 := HS2.out
      have hcl := cntN_le (fun i => decide (la.getD i 0 ∈ lb)) k
      generalize cntN (fun i => decide (la.getD i 0 ∈ lb)) k = S at *
      clear HS1 HS2 c29 c28 hM7 hL7 c27a c27b
      have hq0 : (0 : Int) ≤ q := by omega
      by_cases hab : a = b
      · have hS : S = k := hs2 hab
        clear hs1 hs2
        subst hab
        subst hS
        go_wp2
        go_loopw [16, 17] (fun s i wr => ∃ j : Nat, j ≤ In ∧ i = .int .i64 j ∧ s = .int .i64 (cntN (fun i => decide (pool ∈ membersM q i tn S)) j : Nat) ∧ Box w1 q tn S wr ∧ Below w.heap.size w wr) (fun _ i _ => In - (intOf i).toNat)
        case atStart => exact ⟨0, by omega, rfl, rfl, hX7, hB7⟩
        case round =>
          clear hX7 hB7 k0 k1 k2
          obtain ⟨j, hj, rfl, rfl, hX, hB⟩ := hrel
          have k0 := hX.k0
          have k1 := hX.k1
          have k2 := hX.k2
          by_cases hlj : j < In
          · have c1 := c27 (j : Int) ⟨by omega, by omega⟩ wr
            have hml := membersM_length q j tn S
            have hcj := cntN_le (fun i => decide (pool ∈ membersM q i tn S)) j
            have hcs : cntN (fun i => decide (pool ∈ membersM q i tn S)) (j + 1) = cntN (fun i => decide (pool ∈ membersM q i tn S)) j + (if decide (pool ∈ membersM q j tn S) = true then 1 else 0) := rfl
            generalize membersM q j tn S = ml at *
            have HML := Lib.hid hml
            clear hml
            go_wp2_with fail
            refine c1.mono ?_
            rintro e w8 ⟨v8, rfl, hs8, hb8⟩
            obtain ⟨A8, c8, rfl, hL8⟩ := hs8.lieA HML.out
            have hX8 := hX.step hb8
            have hB8 := hB.trans (hb8.mono hB.size)
            clear k0 k1 k2 hb8 hX hB
            have c2 := c29b ml w8 A8 c8 HML.out hL8
            cases hd : decide (pool ∈ ml) with
            | true =>
              rw [hd] at hcs c2
              have HCS := Lib.hid hcs
              clear hcs hd
              generalize cntN (fun i => decide (pool ∈ membersM q i tn S)) j = s at *
              go_wp2_with (go_at_call 29; refine c2.mono ?_; rintro e w' ⟨rfl, rfl⟩)
              go_roundw
              case rel => exact ⟨j + 1, by omega, by go_num, by rw [HCS.out]; go_num, hX8, hB8⟩
              case measure => simp [intOf]; omega
            | false =>
              rw [hd] at hcs c2
              have HCS := Lib.hid hcs
              clear hcs hd
              generalize cntN (fun i => decide (pool ∈ membersM q i tn S)) j = s at *
              go_wp2_with (go_at_call 29; refine c2.mono ?_; rintro e w' ⟨rfl, rfl⟩)
              go_roundw
              case rel => exact ⟨j + 1, by omega, by go_num, by rw [HCS.out]; rfl, hX8, hB8⟩
              case measure => simp [intOf]; omega
          · obtain rfl : j = In := by omega
            have hfin := HCP.out
            rw [HK1.out] at hfin
            rw [hfin]
            clear hfin
            have hK3 := HK2.out
            have hw9 : IntKind.i64.wrap ((K : Int) * q) = K * q := IntWalk.i64_in _ (by omega)
            have hbeq : ((K : Int) * q == (j : Int)) = true := by rw [hK3]; simp
            clear hK3
            go_wp2
            go_ret
            exact ⟨rfl, hB⟩
      · have hS : S ≤ tn - 1 := hs1 hab
        clear hs1 hs2
        have hb1 : (a == b) = false := by simpa using hab
        have hb2 : (a != b) = true := by simpa using hab
        have hS' : (S : Int) ≤ (tn : Int) - 1 := by omega
        have hd9 : decide ((tn : Int) - 1 < (S : Int)) = false := decide_eq_false (by omega)
        go_wp2
        go_loopw [16, 17] (fun s i wr => ∃ j : Nat, j ≤ In ∧ i = .int .i64 j ∧ s = .int .i64 (cntN (fun i => decide (pool ∈ membersM q i tn k)) j : Nat) ∧ Box w1 q tn k wr ∧ Below w.heap.size w wr) (fun _ i _ => In - (intOf i).toNat)
        case atStart => exact ⟨0, by omega, rfl, rfl, hX7, hB7⟩
        case round =>
          clear hX7 hB7 k0 k1 k2
          obtain ⟨j, hj, rfl, rfl, hX, hB⟩ := hrel
          have k0 := hX.k0
          have k1 := hX.k1
          have k2 := hX.k2
          by_cases hlj : j < In
          · have c1 := c27 (j : Int) ⟨by omega, by omega⟩ wr
            have hml := membersM_length q j tn k
            have hcj := cntN_le (fun i => decide (pool ∈ membersM q i tn k)) j
            have hcs : cntN (fun i => decide (pool ∈ membersM q i tn k)) (j + 1) = cntN (fun i => decide (pool ∈ membersM q i tn k)) j + (if decide (pool ∈ membersM q j tn k) = true then 1 else 0) := rfl
            generalize membersM q j tn k = ml at *
            have HML := Lib.hid hml
            clear hml
            go_wp2_with fail
            refine c1.mono ?_
            rintro e w8 ⟨v8, rfl, hs8, hb8⟩
            obtain ⟨A8, c8, rfl, hL8⟩ := hs8.lieA HML.out
            have hX8 := hX.step hb8
            have hB8 := hB.trans (hb8.mono hB.size)
            clear k0 k1 k2 hb8 hX hB
            have c2 := c29b ml w8 A8 c8 HML.out hL8
            cases hd : decide (pool ∈ ml) with
            | true =>
              rw [hd] at hcs c2
              have HCS := Lib.hid hcs
              clear hcs hd
              generalize cntN (fun i => decide (pool ∈ membersM q i tn k)) j = s at *
              go_wp2_with (go_at_call 29; refine c2.mono ?_; rintro e w' ⟨rfl, rfl⟩)
              go_roundw
              case rel => exact ⟨j + 1, by omega, by go_num, by rw [HCS.out]; go_num, hX8, hB8⟩
              case measure => simp [intOf]; omega
            | false =>
              rw [hd] at hcs c2
              have HCS := Lib.hid hcs
              clear hcs hd
              generalize cntN (fun i => decide (pool ∈ membersM q i tn k)) j = s at *
              go_wp2_with (go_at_call 29; refine c2.mono ?_; rintro e w' ⟨rfl, rfl⟩)
              go_roundw
              case rel => exact ⟨j + 1, by omega, by go_num, by rw [HCS.out]; rfl, hX8, hB8⟩
              case measure => simp [intOf]; omega
          · obtain rfl : j = In := by omega
            have hfin := HCP.out
            rw [HK1.out] at hfin
            rw [hfin]
            clear hfin
            have hK3 := HK2.out
            have hw9 : IntKind.i64.wrap ((K : Int) * q) = K * q := IntWalk.i64_in _ (by omega)
            have hbeq : ((K : Int) * q == (j : Int)) = true := by rw [hK3]; simp
            clear hK3
            go_wp2
            go_ret
            exact ⟨rfl, hB⟩
end
end Go.Proofs.Ytneliejncfncdaa
