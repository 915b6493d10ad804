/- Texts Ie Ig in one. -/
import Derived.Test.YtneliejncfncdaaPkIa
import Derived.Test.YtneliejncfncdaaPkHa
namespace Go.Proofs.Ytneliejncfncdaa
open Go.RowKit

/-- How many of the first k places are dry. -/
def dryN (b : List Bool) (xs : List Int) : Nat → Nat
  | 0 => 0
  | k + 1 => dryN b xs k + (if b.getD (xs.getD k 0).toNat false = true then 0 else 1)
theorem dryN_le (b : List Bool) (xs : List Int) : ∀ k, dryN b xs k ≤ k
  | 0 => Nat.le_refl _
  | k + 1 => by
    have := dryN_le b xs k
    rw [dryN]
    split <;> omega
/-- Find. -/
def findM (q : Int) (t n : Nat) (b : List Bool) (e : Int) : Nat → List Int
  | 0 => []
  | i + 1 => if (dryN b (membersM q i t n) n : Int) ≤ e then findM q t n b e i ++ [(i : Int)] else findM q t n b e i
theorem findM_le (q : Int) (t n : Nat) (b : List Bool) (e : Int) : ∀ i, (findM q t n b e i).length ≤ i
  | 0 => Nat.le_refl _
  | i + 1 => by
    have := findM_le q t n b e i
    rw [findM]
    split
    · simp; omega
    · omega

/-- A row of numbers of the call's own, and nothing below has turned. -/
def Grow (w : World) (B : Nat) (v : Value) (xs : List Int) (W : World) : Prop := OwnI W B v xs.length xs

set_option maxRecDepth 100000 in
set_option maxHeartbeats 1600000 in
theorem Find_bad (q t n e : Int) (A : Option Addr) (c m : Nat) (w : World) (hm : m ≤ 1000000) (h : itemsM q t n = 0 ∨ (m : Int) ≠ n * q ∨ e < 0 ∨ 100 < e) :
    Calls Try.prog 52 #[pools q t n, .slice A m c, .int .i64 e] w (Ret2 [] 1 w) := by
  have hb0 : Below w.heap.size w (w.alloc (.cells #[.int .i64 q, .int .i64 t, .int .i64 n] 35)) := (Below.refl _ _).alloc (Nat.le_refl _) _
  obtain ⟨I, hI⟩ : ∃ I, itemsM q t n = I := ⟨_, rfl⟩
  have c64 : ∀ W, Calls Try.prog 64 #[pools q t n] W fun e w' => e = .returned (.int .i64 I) ∧ Below W.heap.size W w' := fun W => by rw [← hI]; exact items_any q t n W
  have hv : I ≠ 0 → (0 ≤ n * q ∧ n * q ≤ 31 * 31) := fun h0 => by
    have hp : 0 < itemsM q t n := by
      rcases Classical.em (primeB q = true ∧ 1 ≤ t ∧ t ≤ q ∧ t ≤ n ∧ n ≤ q ∧ q ^ t.toNat ≤ 1000) with hc | hc
      · rw [items_pow hc]
        have := prime_bd hc.1
        have := pow_bd (q := q) (by omega) t.toNat
        omega
      · rw [items_zero hc] at hI; omega
    obtain ⟨v1, v2, v3, v4, v5, v6, v7⟩ := items_valid hp
    have := prime_bd v1
    exact ⟨Int.mul_nonneg (by omega) (by omega), Int.mul_le_mul (by omega) (by omega) (by omega) (by omega)⟩
  rw [hI] at h
  clear hI
  by_cases h1 : I = 0
  · subst h1
    clear h hv
    go_enter Try.func52, Try.ntmps52
    go_wp2_with (go_at_call 64; refine (c64 _).mono ?_; rintro e w1 ⟨rfl, hb1⟩)
    go_ret2
    exact ⟨_, rfl, SlI.nil _, hb0.trans (hb1.mono (by simp))⟩
  · have hbI : (I == 0) = false := by simpa using h1
    have hvv := hv h1
    obtain ⟨hv1, hv2⟩ := hvv
    have hw : IntKind.i64.wrap (n * q) = n * q := IntWalk.i64_in _ (by omega)
    clear hv
    by_cases h2 : (m : Int) = n * q
    · have hb2 : ((m : Int) == n * q) = true := by simpa using h2
      have hb3 : ((m : Int) != n * q) = false := by simpa using h2
      have h4 : e < 0 ∨ 100 < e := by
        rcases h with h | h | h
        · exact absurd h h1
        · exact absurd h2 h
        · exact h
      have H2 := Lib.hid h2
      clear h h2
      by_cases h3 : e < 0
      · go_enter Try.func52, Try.ntmps52
        go_wp2_with (go_at_call 64; refine (c64 _).mono ?_; rintro e w1 ⟨rfl, hb1⟩; have k0 := hb1.cell (p := ⟨w.heap.size, 0, none⟩) (by simp); have k2 := hb1.cell (p := ⟨w.heap.size, 2, none⟩) (by simp); simp [go_sem] at k0 k2; have hs1 := hb1.size; simp at hs1)
        go_ret2
        exact ⟨_, rfl, SlI.nil _, hb0.trans (hb1.mono (by simp))⟩
      · have h5 : 100 < e := by omega
        have h6 : decide (e < 0) = false := decide_eq_false h3
        have h7 : decide (100 < e) = true := decide_eq_true h5
        clear h4
        go_enter Try.func52, Try.ntmps52
        go_wp2_with (go_at_call 64; refine (c64 _).mono ?_; rintro e w1 ⟨rfl, hb1⟩; have k0 := hb1.cell (p := ⟨w.heap.size, 0, none⟩) (by simp); have k2 := hb1.cell (p := ⟨w.heap.size, 2, none⟩) (by simp); simp [go_sem] at k0 k2; have hs1 := hb1.size; simp at hs1)
        go_ret2
        exact ⟨_, rfl, SlI.nil _, hb0.trans (hb1.mono (by simp))⟩
    · have hb2 : ((m : Int) == n * q) = false := by simpa using h2
      have hb3 : ((m : Int) != n * q) = true := by simpa using h2
      clear h
      go_enter Try.func52, Try.ntmps52
      go_wp2_with (go_at_call 64; refine (c64 _).mono ?_; rintro e w1 ⟨rfl, hb1⟩; have k0 := hb1.cell (p := ⟨w.heap.size, 0, none⟩) (by simp); have k2 := hb1.cell (p := ⟨w.heap.size, 2, none⟩) (by simp); simp [go_sem] at k0 k2; have hs1 := hb1.size; simp at hs1)
      go_ret2
      exact ⟨_, rfl, SlI.nil _, hb0.trans (hb1.mono (by simp))⟩

set_option maxRecDepth 100000 in
set_option maxHeartbeats 1600000 in
theorem Find_good (q I e : Int) (t n N : Nat) (A : Option Addr) (c : Nat) (b : List Bool) (w : World) (hq : 2 ≤ q ∧ q ≤ 31) (ht : t ≤ 31) (hn : 1 ≤ n ∧ n ≤ 31) (hN : n * q.toNat = N)
    (hI : itemsM q t n = I) (hI1 : 0 < I ∧ I ≤ 1000) (hA : Bools w A b) (hm : b.length = N) (he : 0 ≤ e ∧ e ≤ 100) :
    Calls Try.prog 52 #[pools q t n, .slice A N c, .int .i64 e] w (Ret2 (findM q t n b e I.toNat) 0 w) := by
  obtain ⟨hq1, hq2⟩ := hq
  obtain ⟨hn1, hn2⟩ := hn
  obtain ⟨hI2, hI3⟩ := hI1
  obtain ⟨he1, he2⟩ := he
  have hb0 : Below (w.heap.size + 1) (w.alloc (.cells #[.int .i64 q, .int .i64 t, .int .i64 n] 35)) (w.alloc (.cells #[.int .i64 q, .int .i64 t, .int .i64 n] 35)) := Below.refl _ _
  have hb00 : Below w.heap.size w (w.alloc (.cells #[.int .i64 q, .int .i64 t, .int .i64 n] 35)) := (Below.refl _ _).alloc (Nat.le_refl _) _
  obtain ⟨In, rfl⟩ : ∃ In : Nat, I = In := ⟨I.toNat, by omega⟩
  have c64 : ∀ W, Calls Try.prog 64 #[pools q t n] W fun e w' => e = .returned (.int .i64 In) ∧ Below W.heap.size W w' := fun W => by rw [← hI]; exact items_any q t n W
  have hbI : ((In : Int) == 0) = false := by simp; omega
  have hbI2 : ¬ In = 0 := by omega
  have hNI : ((N : Nat) : Int) = n * q := by rw [← hN, Int.natCast_mul, show ((q.toNat : Nat) : Int) = q by omega]
  have hnq1 : 0 ≤ (n : Int) * q := Int.mul_nonneg (by omega) (by omega)
  have hnq2 : (n : Int) * q ≤ 31 * 31 := Int.mul_le_mul (by omega) hq2 (by omega) (by omega)
  have hw : IntKind.i64.wrap ((n : Int) * q) = n * q := IntWalk.i64_in _ (by omega)
  have hne1 : ((N : Int) == n * q) = true := by simpa using hNI
  have hne2 : ((N : Int) != n * q) = false := by simpa using hNI
  have d1 : decide (e < 0) = false := decide_eq_false (by omega)
  have d2 : decide (100 < e) = false := decide_eq_false (by omega)
  have HNI := Lib.hid hNI
  have HM := Lib.hid hm
  have HN := Lib.hid hN
  clear hI hNI hm hN
  rw [Int.toNat_natCast]
  go_enter Try.func52, Try.ntmps52
  go_wp2_with (go_at_call 64; refine (c64 _).mono ?_; rintro e w1 ⟨rfl, hb1⟩; have hbs := hb0.trans (hb1.mono (by simp)); have hs1 := hb1.size; simp at hs1; have k0 := hbs.cell (p := ⟨w.heap.size, 0, none⟩) (by simp); have k1 := hbs.cell (p := ⟨w.heap.size, 1, none⟩) (by simp); have k2 := hbs.cell (p := ⟨w.heap.size, 2, none⟩) (by simp); simp [go_sem] at k0 k1 k2)
  have HB0 := Lib.hid hb00
  obtain ⟨wo, rfl⟩ : ∃ wo, wo = w1 := ⟨_, rfl⟩
  clear hb1 hs1 hb0 hb00 k0 k1 k2 c64
  go_loopw [9, 37] (fun v i wr => ∃ k : Nat, k ≤ In ∧ i = .int .i64 k ∧ OwnI wr (w.heap.size + 1) v (findM q t n b e k).length (findM q t n b e k) ∧ Below (w.heap.size + 1) (w.alloc (.cells #[.int .i64 q, .int .i64 t, .int .i64 n] 35)) wr) (fun _ i _ => In - (intOf i).toNat)
  case atStart => exact ⟨0, by omega, rfl, OwnI.nil _ _, hbs⟩
  case round =>
    clear hbs
    obtain ⟨k, hk, rfl, hown, hbl⟩ := hrel
    have k0 := hbl.cell (p := ⟨w.heap.size, 0, none⟩) (by simp)
    have k1 := hbl.cell (p := ⟨w.heap.size, 1, none⟩) (by simp)
    have k2 := hbl.cell (p := ⟨w.heap.size, 2, none⟩) (by simp)
    simp [go_sem] at k0 k1 k2
    have hsz := hbl.size
    simp at hsz
    by_cases hlt : k < In
    · have cm : ∀ W, Calls Try.prog 65 #[pools q t n, .int .i64 k] W (RetInts (membersM q k t n) W) := fun W => members_any q k t n W ⟨hq1, hq2⟩ ht hn2 ⟨by omega, by omega⟩
      have hmb := fun (j : Nat) (hj : j < (membersM q k t n).length) => members_bd (q := q) (item := k) hq1 t n hj
      have hml := membersM_length q k t n
      have hfl := findM_le q t n b e k
      have hfs : findM q t n b e (k + 1) = if (dryN b (membersM q k t n) n : Int) ≤ e then findM q t n b e k ++ [(k : Int)] else findM q t n b e k := rfl
      have HFS := Lib.hid hfs
      have HMB := Lib.hid hmb
      have HML := Lib.hid hml
      clear hmb hml hfs
      generalize membersM q k t n = xs at *
      generalize findM q t n b e k = fs at *
      generalize hL : fs.length = L at *
      clear hL
      go_wp2_with (go_at_call 65; refine (cm _).mono ?_; rintro e1 w3 ⟨v3, rfl, hs, hb3⟩; obtain ⟨A3, c3, rfl, hX⟩ := hs.lieA HML.out)
      have hown3 := hown.below hb3
      have hbl3 := hbl.trans (hb3.mono (by omega))
      have hA3 := hA.below (HB0.out.trans (hbl3.mono (by omega)))
      clear hown hbl hb3 k0 k1 k2 cm
      go_loop [11, 44] (fun d i => ∃ j : Nat, j ≤ n ∧ i = .int .i64 j ∧ d = .int .i64 (dryN b xs j : Nat)) (fun _ i => n - (intOf i).toNat)
      case atStart => exact ⟨0, by omega, rfl, rfl⟩
      case round =>
        obtain ⟨j, hj, rfl, rfl⟩ := hrel
        have hdl := dryN_le b xs j
        by_cases hlj : j < n
        · obtain ⟨b3, o3, rfl, hb3, hc3⟩ := hX.get (k := j) (by rw [HML.out]; exact hlj)
          have hpb := HMB.out j (by rw [HML.out]; exact hlj)
          have hds : dryN b xs (j + 1) = dryN b xs j + (if b.getD (xs[j]'(by rw [HML.out]; exact hlj)).toNat false = true then 0 else 1) := by
            rw [dryN, show xs.getD j 0 = xs[j]'(by rw [HML.out]; exact hlj) by simp [List.getD, show j < xs.length by rw [HML.out]; exact hlj]]
          generalize xs[j]'(by rw [HML.out]; exact hlj) = p at *
          obtain ⟨hp1, hp2⟩ := hpb
          have hp3 : p < ((N : Nat) : Int) := by rw [HNI.out]; exact hp2
          have hp4 : p.toNat < N := by omega
          obtain ⟨pn, rfl⟩ : ∃ pn : Nat, p = pn := ⟨p.toNat, by omega⟩
          rw [Int.toNat_natCast] at hds hp4
          obtain ⟨bb, ob, rfl, hbb, hcb⟩ := hA3.get (k := pn) (by rw [HM.out]; exact hp4)
          have hgd : b.getD pn false = b[pn]'(by rw [HM.out]; exact hp4) := by simp [List.getD, show pn < b.length by rw [HM.out]; exact hp4]
          rw [hgd] at hds
          clear hgd hp2
          generalize b[pn]'(by rw [HM.out]; exact hp4) = y at *
          cases y with
          | true =>
            simp only [if_true] at hds
            have HDS := Lib.hid hds
            clear hds
            generalize dryN b xs j = s at *
            go_wp2
            go_round
            case rel => exact ⟨j + 1, by omega, by go_num, by rw [HDS.out]; rfl⟩
            case measure => simp [intOf]; omega
          | false =>
            simp only [Bool.false_eq_true, if_false] at hds
            have HDS := Lib.hid hds
            clear hds
            generalize dryN b xs j = s at *
            go_wp2
            go_round
            case rel => exact ⟨j + 1, by omega, by go_num, by rw [HDS.out]; go_num⟩
            case measure => simp [intOf]; omega
        · obtain rfl : j = n := by omega
          generalize dryN b xs j = s at *
          by_cases hd : (s : Int) ≤ e
          · have hf1 : findM q t j b e (k + 1) = fs ++ [(k : Int)] := by rw [HFS.out, if_pos hd]
            have HF1 := Lib.hid hf1
            clear hf1
            have hfl1 : (findM q t j b e (k + 1)).length = L + 1 := by rw [HF1.out]; have := hown3.len; simp; omega
            have HFL1 := Lib.hid hfl1
            clear hfl1
            go_wp2_with (at_builtin; refine wpList_int _ rfl _ _ rfl (w.heap.size + 1) _ L fs rfl (hown3.alloc _) w3.heap.size k rfl (heap_alloc_new w3 _) (by omega) (by have := hbl3.size; simp at this; simp; omega) (w3.heap.size + 1) (by simp) ?_)
            intro g cap w4 hown4 hgrow hat hlt4
            have hb4 := (hbl3.alloc (o := .cells #[.int .i64 k] 3) (by have := hbl3.size; simp at this; omega)).grown hgrow (by have := hbl3.size; simp at this; simp; omega) (fun g hg => (hown3.lt g hg).1)
            clear hown3 hbl3 hgrow hat hA3 hX
            go_wp2
            go_roundw
            case rel => exact ⟨k + 1, by omega, by go_num, by rw [HFL1.out, HF1.out]; exact hown4, hb4⟩
            case measure => simp [intOf]; omega
          · have hf1 : findM q t j b e (k + 1) = fs := by rw [HFS.out, if_neg hd]
            have HF1 := Lib.hid hf1
            clear hf1
            go_wp2
            go_roundw
            case rel => exact ⟨k + 1, by omega, by go_num, by rw [HF1.out, hown3.len]; exact hown3, hbl3⟩
            case measure => simp [intOf]; omega
    · obtain rfl : k = In := by omega
      have hsl := hown.sli
      have hbf := HB0.out.trans (hbl.mono (by omega))
      clear k0 k1 k2
      go_wp2
      go_ret2
      exact ⟨_, rfl, hsl, hbf⟩
end Go.Proofs.Ytneliejncfncdaa

namespace Go.Proofs.Ytneliejncfncdaa
open Go.RowKit

theorem unlN_comm (a b : List Bool) : ∀ k, unlN a b k = unlN b a k
  | 0 => rfl
  | k + 1 => by rw [unlN, unlN, unlN_comm a b k]; simp only [eq_comm]

def RetII (x y : Int) (w : World) (e : Ending) (w' : World) : Prop := e = .returned (.tuple #[.int .i64 x, .int .i64 y]) ∧ Below w.heap.size w w'

set_option maxRecDepth 100000 in
set_option maxHeartbeats 1600000 in
theorem Explains_bad (q t n : Int) (A R : Option Addr) (c d m N k : Nat) (l : List Int) (wl : List Bool) (e0 : Int) (w : World) (hl : l.length = m) (hA : Ints w A l) (hm : N ≤ 1000000) (hwl : wl.length = k) (hk : k ≤ 1000000)
    (c42 : ∀ W A c, Ints W A l → Calls Try.prog 42 #[pools q t n, .slice A m c] W (RetW wl e0 W)) (h : e0 = 1 ∨ e0 = 0 ∧ N ≠ k) :
    Calls Try.prog 53 #[pools q t n, .slice R N d, .slice A m c] w (RetII 0 1 w) := by
  have hb0 : Below w.heap.size w (w.alloc (.cells #[.int .i64 q, .int .i64 t, .int .i64 n] 35)) := (Below.refl _ _).alloc (Nat.le_refl _) _
  have hA0 := Ints.below hA hb0
  have HL := Lib.hid hwl
  clear hl hwl
  rcases h with rfl | ⟨rfl, hne⟩
  · go_enter Try.func53, Try.ntmps53
    go_wp2_with fail
    refine (c42 _ _ _ hA0).mono ?_
    rintro e w1 ⟨A1, c1, rfl, hW, hb1⟩
    go_wp2
    go_ret2
    exact ⟨rfl, hb0.trans (hb1.mono (by simp))⟩
  · have h1 : (N == k) = false := by simpa using hne
    have h2 : ((N : Int) == (k : Int)) = false := by simp; omega
    have h3 : ((N : Int) != (k : Int)) = true := by simp; omega
    have h4 : (N != k) = true := by simpa using hne
    go_enter Try.func53, Try.ntmps53
    go_wp2_with fail
    refine (c42 _ _ _ hA0).mono ?_
    rintro e w1 ⟨A1, c1, rfl, hW, hb1⟩
    rw [HL.out]
    go_wp2
    go_ret2
    exact ⟨rfl, hb0.trans (hb1.mono (by simp))⟩

set_option maxRecDepth 100000 in
set_option maxHeartbeats 1600000 in
theorem Explains_good (q t n : Int) (A R : Option Addr) (c d m N : Nat) (l : List Int) (wl b : List Bool) (w : World) (hl : l.length = m) (hA : Ints w A l) (hR : Bools w R b) (hbl : b.length = N) (hm : N ≤ 1000000) (hwl : wl.length = N)
    (c42 : ∀ W A c, Ints W A l → Calls Try.prog 42 #[pools q t n, .slice A m c] W (RetW wl 0 W)) :
    Calls Try.prog 53 #[pools q t n, .slice R N d, .slice A m c] w (RetII (unlN wl b N : Nat) 0 w) := by
  have hb0 : Below w.heap.size w (w.alloc (.cells #[.int .i64 q, .int .i64 t, .int .i64 n] 35)) := (Below.refl _ _).alloc (Nat.le_refl _) _
  have hA0 := Ints.below hA hb0
  have HL := Lib.hid hwl
  have HBL := Lib.hid hbl
  clear hl hwl hbl
  go_enter Try.func53, Try.ntmps53
  go_wp2_with fail
  refine (c42 _ _ _ hA0).mono ?_
  rintro e w1 ⟨A1, c1, rfl, hW, hb1⟩
  rw [HL.out]
  have hbf := hb0.trans (hb1.mono (by simp))
  have hR1 := hR.below hbf
  clear c42 hA0 hb0 hb1
  go_wp2
  go_loopw [10, 29] (fun s i wr => ∃ k : Nat, k ≤ N ∧ i = .int .i64 k ∧ s = .int .i64 (unlN wl b k : Nat) ∧ ∃ nd, wr = w1.drewN nd) (fun _ i _ => N - (intOf i).toNat)
  case atStart => exact ⟨0, by omega, rfl, rfl, 0, rfl⟩
  case round =>
    obtain ⟨k, hk, rfl, rfl, nd, rfl⟩ := hrel
    have hfl := unlN_le wl b k
    by_cases hlt : k < N
    · obtain ⟨b1, o1, rfl, hl1, hc1⟩ := hW.get (k := k) (by rw [HL.out]; exact hlt)
      obtain ⟨b2, o2, rfl, hl2, hc2⟩ := hR1.get (k := k) (by rw [HBL.out]; exact hlt)
      have hf : unlN wl b (k + 1) = unlN wl b k + (if wl[k]'(by rw [HL.out]; exact hlt) = b[k]'(by rw [HBL.out]; exact hlt) then 0 else 1) := by
        rw [unlN]
        simp [List.getD, show k < wl.length by rw [HL.out]; exact hlt, show k < b.length by rw [HBL.out]; exact hlt]
      generalize wl[k]'(by rw [HL.out]; exact hlt) = x at *
      generalize b[k]'(by rw [HBL.out]; exact hlt) = y at *
      by_cases hxy : x = y
      · rw [if_pos hxy] at hf
        subst hxy
        have HF := Lib.hid hf
        clear hf
        generalize unlN wl b k = s at *
        go_wp2
        go_quiet (fail)
        go_wp2
        go_roundw
        case rel => exact ⟨k + 1, by omega, by go_num, by rw [HF.out]; rfl, _, rfl⟩
        case measure => simp [intOf]; omega
      · rw [if_neg hxy] at hf
        have hb1 : (x == y) = false := by simpa using hxy
        have hb2 : (x != y) = true := by simpa using hxy
        have HF := Lib.hid hf
        clear hf
        generalize unlN wl b k = s at *
        go_wp2
        go_quiet (fail)
        go_wp2
        go_roundw
        case rel => exact ⟨k + 1, by omega, by go_num, by rw [HF.out]; go_num, _, rfl⟩
        case measure => simp [intOf]; omega
    · obtain rfl : k = N := by omega
      go_wp2
      go_ret2
      exact ⟨rfl, below_drewN' hbf _⟩
end Go.Proofs.Ytneliejncfncdaa
