/- seal.Members; the law's helpers same, cut, lives. -/
import Derived.Test.YtneliejncfncdaaS
namespace Go.Proofs.Ytneliejncfncdaa
open Go.RowKit

/-- A result of two: a list and an error. -/
def Ret2 (xs : List Int) (n : Int) (w : World) (e : Ending) (w' : World) : Prop :=
  ∃ v, e = .returned (.tuple #[v, .int .i64 n]) ∧ SlI w' v xs ∧ Below w.heap.size w w'

theorem items_valid {q t n : Int} (h : 0 < itemsM q t n) : primeB q = true ∧ 1 ≤ t ∧ t ≤ q ∧ t ≤ n ∧ n ≤ q ∧ q ^ t.toNat ≤ 1000 ∧ itemsM q t n = q ^ t.toNat := by
  by_cases hc : primeB q = true ∧ 1 ≤ t ∧ t ≤ q ∧ t ≤ n ∧ n ≤ q ∧ q ^ t.toNat ≤ 1000
  · exact ⟨hc.1, hc.2.1, hc.2.2.1, hc.2.2.2.1, hc.2.2.2.2.1, hc.2.2.2.2.2, items_pow hc⟩
  · rw [items_zero hc] at h; omega

/-- seal.Members. -/
def membersR (q t n item : Int) : List Int × Int := if item < 0 ∨ itemsM q t n ≤ item then ([], 1) else (membersM q item t.toNat n.toNat, 0)

theorem SlI.nil (w : World) : SlI w (.slice none 0 0) [] := ⟨none, 0, rfl, by simp, by simp [maxLen], fun _ => rfl, Ints.nil _ _⟩
theorem SlI.below {w w' : World} {v : Value} {xs : List Int} (h : SlI w v xs) (hb : Below w.heap.size w w') : SlI w' v xs := by
  obtain ⟨A, c, hv, h1, h2, h3, h4⟩ := h
  exact ⟨A, c, hv, h1, h2, h3, Ints.below h4 hb⟩

set_option maxRecDepth 100000 in
set_option maxHeartbeats 800000 in
theorem Members_any (q t n item : Int) (w : World) : Calls Try.prog 27 #[pools q t n, .int .i64 item] w (Ret2 (membersR q t n item).1 (membersR q t n item).2 w) := by
  by_cases h0 : item < 0
  · have e : membersR q t n item = ([], 1) := by unfold membersR; rw [if_pos (.inl h0)]
    rw [e]
    go_enter Try.func27, Try.ntmps27
    go_wp2
    go_ret2
    exact ⟨_, rfl, SlI.nil _, (Below.refl _ _).alloc (Nat.le_refl _) _⟩
  · by_cases h1 : itemsM q t n ≤ item
    · have e : membersR q t n item = ([], 1) := by unfold membersR; rw [if_pos (.inr h1)]
      rw [e]
      generalize hI : itemsM q t n = I at *
      have c64 : ∀ W, Calls Try.prog 64 #[pools q t n] W fun e w' => e = .returned (.int .i64 I) ∧ Below W.heap.size W w' := fun W => by rw [← hI]; exact items_any q t n W
      clear hI e
      go_enter Try.func27, Try.ntmps27
      go_wp2_with (go_at_call 64; refine (c64 _).mono ?_; rintro e w1 ⟨rfl, hb1⟩)
      go_ret2
      exact ⟨_, rfl, SlI.nil _, ((Below.refl _ _).alloc (Nat.le_refl _) _).trans (hb1.mono (by simp))⟩
    · have e : membersR q t n item = (membersM q item t.toNat n.toNat, 0) := by unfold membersR; rw [if_neg (by omega)]
      rw [e]
      have hv := items_valid (q := q) (t := t) (n := n) (by omega)
      obtain ⟨v1, v2, v3, v4, v5, v6, v7⟩ := hv
      have hp := prime_bd v1
      obtain ⟨hp1, hp2⟩ := hp
      have cm : ∀ W, Calls Try.prog 65 #[pools q t n, .int .i64 item] W (RetInts (membersM q item t.toNat n.toNat) W) := fun W => by
        have := members_any q item t.toNat n.toNat W ⟨hp1, hp2⟩ (by omega) (by omega) ⟨by omega, by omega⟩
        rwa [show ((t.toNat : Nat) : Int) = t by omega, show ((n.toNat : Nat) : Int) = n by omega] at this
      generalize hI : itemsM q t n = I at *
      have c64 : ∀ W, Calls Try.prog 64 #[pools q t n] W fun e w' => e = .returned (.int .i64 I) ∧ Below W.heap.size W w' := fun W => by rw [← hI]; exact items_any q t n W
      clear hI e v1 v6 v7
      generalize membersM q item t.toNat n.toNat = xs at *
      go_enter Try.func27, Try.ntmps27
      go_wp2_with (go_at_call 64; refine (c64 _).mono ?_; rintro e w1 ⟨rfl, hb1⟩; have k0 := hb1.cell (p := ⟨w.heap.size, 0, none⟩) (by simp); have k1 := hb1.cell (p := ⟨w.heap.size, 1, none⟩) (by simp); have k2 := hb1.cell (p := ⟨w.heap.size, 2, none⟩) (by simp); simp [go_sem] at k0 k1 k2; have hs1 := hb1.size; simp at hs1)
      refine (cm _).mono ?_
      rintro e w2 ⟨v, rfl, hs, hb2⟩
      have hbf := (((Below.refl w.heap.size w).alloc (Nat.le_refl _) (.cells #[.int .i64 q, .int .i64 t, .int .i64 n] 35)).trans (hb1.mono (by simp))).trans (hb2.mono (by omega))
      clear k0 k1 k2 cm c64 hb1 hb2
      go_wp2
      go_ret2
      exact ⟨v, rfl, hs, hbf⟩

theorem drewN2 (w : World) (a b : Nat) : (w.drewN a).drewN b = w.drewN (a + b) := by simp [World.drewN, Nat.add_assoc]

set_option maxHeartbeats 800000 in
/-- The law's same. -/
theorem lawsame_any (A B : Option Addr) (n m c d : Nat) (xs ys : List Int) (w : World) (hA : Ints w A xs) (hB : Ints w B ys) (hn : xs.length = n) (hm : ys.length = m) (hb : n ≤ 1000000) (hb2 : m ≤ 1000000) :
    Calls Try.prog 23 #[.slice A n c, .slice B m d] w fun e w' => e = .returned (.bool (decide (xs = ys))) ∧ ∃ k, w' = w.drewN k := by
  by_cases hnm : n = m
  · subst hnm
    have HN := Lib.hid hn
    have HM := Lib.hid hm
    clear hn hm
    go_enter Try.func23, Try.ntmps23
    go_wp2
    go_loopw [5] (fun i wr => ∃ k : Nat, k ≤ n ∧ i = .int .i64 k ∧ xs.take k = ys.take k ∧ ∃ nd, wr = w.drewN nd) (fun i _ => n - (intOf i).toNat)
    case atStart => exact ⟨0, by omega, rfl, rfl, 0, rfl⟩
    case round =>
      obtain ⟨k, hk, rfl, ht, nd, rfl⟩ := hrel
      by_cases hlt : k < n
      · obtain ⟨b1, o1, rfl, hl1, hc1⟩ := hA.get (k := k) (by rw [HN.out]; exact hlt)
        obtain ⟨b2, o2, rfl, hl2, hc2⟩ := hB.get (k := k) (by rw [HM.out]; exact hlt)
        have hnx : ∀ (l : List Int) (h : k < l.length), l.take (k + 1) = l.take k ++ [l[k]] := fun l h => by rw [List.take_add_one, List.getElem?_eq_getElem h]; rfl
        have hx1 := hnx xs (by rw [HN.out]; exact hlt)
        have hx2 := hnx ys (by rw [HM.out]; exact hlt)
        have hne : xs[k]'(by rw [HN.out]; exact hlt) ≠ ys[k]'(by rw [HM.out]; exact hlt) → decide (xs = ys) = false := by
          intro h
          simp only [decide_eq_false_iff_not]
          intro e
          subst e
          exact h rfl
        generalize xs[k]'(by rw [HN.out]; exact hlt) = x at *
        generalize ys[k]'(by rw [HM.out]; exact hlt) = y at *
        have HT := Lib.hid ht
        have HX1 := Lib.hid hx1
        have HX2 := Lib.hid hx2
        clear hx1 hx2 hnx ht
        by_cases hxy : x = y
        · subst hxy
          clear hne
          go_wp2
          go_quiet (fail)
          go_wp2
          go_roundw
          case rel => exact ⟨k + 1, by omega, by go_num, by rw [HX1.out, HX2.out, HT.out], _, rfl⟩
          case measure => simp [intOf]; omega
        · have hd := hne hxy
          have hb1 : (x == y) = false := by simpa using hxy
          have hb2 : (x != y) = true := by simpa using hxy
          have HD := Lib.hid hd
          clear hd hne
          go_wp2
          go_quiet (fail)
          go_wp2
          go_ret
          exact ⟨by rw [HD.out]; rfl, _, drewN2 _ _ _⟩
      · obtain rfl : k = n := by omega
        have hd : decide (xs = ys) = true := by
          rw [List.take_of_length_le (by rw [HN.out]; omega), List.take_of_length_le (by rw [HM.out]; omega)] at ht
          simpa using ht
        have HD := Lib.hid hd
        clear hd ht
        go_wp2
        go_ret
        exact ⟨by rw [HD.out]; rfl, _, rfl⟩
  · have hd : decide (xs = ys) = false := by
      simp only [decide_eq_false_iff_not]
      intro e
      subst e
      omega
    rw [hd]
    have h1 : (n == m) = false := by simpa using hnm
    have h2 : ((n : Int) == (m : Int)) = false := by simp; omega
    go_enter Try.func23, Try.ntmps23
    go_wp2
    go_ret
    exact ⟨rfl, 0, rfl⟩

set_option maxRecDepth 100000 in
set_option maxHeartbeats 800000 in
/-- The law's cut. -/
theorem cut_any (A : Option Addr) (n c : Nat) (N : Int) (m : Nat) (xs : List Int) (w : World) (hA : Ints w A xs) (hn : xs.length = n) (hnc : n ≤ c) (hN : N = (m : Int)) (hm : m ≤ 1000) (hnil : A = none → c = 0) :
    Calls Try.prog 17 #[.slice A n c, .int .i64 N] w (RetInts (xs.take m) w) := by
  subst hN
  have hown0 : ∀ W : World, W = w.alloc (.cells #[] 3) → OwnI W w.heap.size (.slice (some ⟨w.heap.size, 0, none⟩) 0 0) 0 [] := fun W hW => by
    subst hW
    exact World.ownsRow_lit w #[] 0 (Nat.le_refl _) (by simp [maxLen]) rfl
  cases A with
  | none =>
    have hc0 : c = 0 := hnil rfl
    subst hc0
    have hn0 : n = 0 := by omega
    subst hn0
    have hx : xs = [] := List.eq_nil_of_length_eq_zero hn
    subst hx
    have h0 : min (0 : Int) (m : Int) = 0 := by omega
    have ho := (hown0 _ rfl).sli
    by_cases hm0 : m = 0
    · subst hm0
      go_enter Try.func17, Try.ntmps17
      go_wp2
      go_ret
      exact ⟨_, rfl, ho, (Below.refl _ _).alloc (Nat.le_refl _) _⟩
    · have hm1 : ¬ m < 0 := by omega
      have hm2 : 0 < m := by omega
      go_enter Try.func17, Try.ntmps17
      go_wp2
      go_ret
      exact ⟨_, rfl, by simpa using ho, (Below.refl _ _).alloc (Nat.le_refl _) _⟩
  | some a =>
    by_cases hlt : m < n
    · have e1 : (xs.take m).length = m := by simp; omega
      have hlt2 : (m : Int) < (n : Int) := by omega
      have hge : (m : Int) ≤ (c : Int) := by omega
      have hA2 : Ints (w.alloc (.cells #[] 3)) (some a) (xs.take m) := by
        rcases hA.alloc (.cells #[] 3) with h | ⟨b, off, h1, h2, h3⟩
        · exact .inl (by rw [List.map_take, h]; simp)
        · refine .inr ⟨b, off, h1, h2, fun j v hj => h3 j v ?_⟩
          rw [List.map_take, List.getElem?_take] at hj
          split at hj
          · exact hj
          · cases hj
      have HL := Lib.hid hn
      clear hn
      generalize xs.take m = ys at *
      go_enter Try.func17, Try.ntmps17
      go_wp2_with (at_builtin; refine wpList_ints _ rfl _ _ rfl w.heap.size _ 0 [] rfl (hown0 _ rfl) a m c ys rfl hA2 e1 (by omega) (by simp) ?_)
      intro v' w1 ho hg
      have hb1 := ((Below.refl w.heap.size w).alloc (Nat.le_refl _) (.cells #[] 3)).grown hg (by simp) (by intro k hk; simp [Value.ownBlock] at hk; omega)
      clear hg
      go_wp2
      go_ret
      exact ⟨_, rfl, by simpa using ho.sli, hb1⟩
    · have e1 : xs.take m = xs := List.take_of_length_le (by omega)
      rw [e1]
      have hlt2 : ¬ ((m : Int) < (n : Int)) := by omega
      have hge : (n : Int) ≤ (c : Int) := by omega
      have hA2 := hA.alloc (.cells #[] 3)
      by_cases hmn : m = n
      · subst hmn
        have HL := Lib.hid hn
        clear hn
        go_enter Try.func17, Try.ntmps17
        go_wp2_with (at_builtin; refine wpList_ints _ rfl _ _ rfl w.heap.size _ 0 [] rfl (hown0 _ rfl) a m c xs rfl hA2 HL.out (by omega) (by simp) ?_)
        intro v' w1 ho hg
        have hb1 := ((Below.refl w.heap.size w).alloc (Nat.le_refl _) (.cells #[] 3)).grown hg (by simp) (by intro k hk; simp [Value.ownBlock] at hk; omega)
        clear hg
        go_wp2
        go_ret
        exact ⟨_, rfl, by simpa using ho.sli, hb1⟩
      · have hgt : n < m := by omega
        have hgt2 : (n : Int) < (m : Int) := by omega
        have HL := Lib.hid hn
        clear hn
        go_enter Try.func17, Try.ntmps17
        go_wp2_with (at_builtin; refine wpList_ints _ rfl _ _ rfl w.heap.size _ 0 [] rfl (hown0 _ rfl) a n c xs rfl hA2 HL.out (by omega) (by simp) ?_)
        intro v' w1 ho hg
        have hb1 := ((Below.refl w.heap.size w).alloc (Nat.le_refl _) (.cells #[] 3)).grown hg (by simp) (by intro k hk; simp [Value.ownBlock] at hk; omega)
        clear hg
        go_wp2
        go_ret
        exact ⟨_, rfl, by simpa using ho.sli, hb1⟩

theorem readR_live : readR 5 2 [1, 2, 0, 4] = ([1, 1], 1, 0) := by decide +kernel
theorem membersR_live : membersR 3 2 3 5 = ([2, 3, 7], 0) := by decide +kernel
theorem invR_live : invR 7 3 = (5, 0) := by decide +kernel
end Go.Proofs.Ytneliejncfncdaa
