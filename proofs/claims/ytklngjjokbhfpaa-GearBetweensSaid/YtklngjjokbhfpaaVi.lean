/- gear's sum; cmp.Compare, cmp.Or, slices.Compare. -/
import Derived.Test.YtklngjjokbhfpaaVh
import Derived.Test.YtklngjjokbhfpaaVd
namespace Go.Proofs.Ytklngjjokbhfpaa
open Go.RowKit

def sumL (l : List Int) : Int := l.foldl (· + ·) 0
theorem sumL_snoc (l : List Int) (x : Int) : sumL (l ++ [x]) = sumL l + x := by simp [sumL]
theorem foldl_add : ∀ (l : List Int) (a : Int), l.foldl (· + ·) a = a + sumL l
  | [], a => by simp [sumL]
  | x :: l, a => by
    show l.foldl (· + ·) (a + x) = a + l.foldl (· + ·) (0 + x)
    rw [foldl_add l, foldl_add l]; omega
theorem sumL_cons (x : Int) (l : List Int) : sumL (x :: l) = x + sumL l := by
  show l.foldl (· + ·) (0 + x) = _
  rw [foldl_add]; omega
theorem sumL_bound : ∀ (l : List Int), (∀ x ∈ l, 1 ≤ x ∧ x ≤ 200) → 0 ≤ sumL l ∧ sumL l ≤ 200 * (l.length : Int)
  | [], _ => by simp [sumL]
  | x :: l, h => by
    have := sumL_bound l fun y hy => h y (by simp [hy])
    have := h x (by simp)
    rw [sumL_cons, List.length_cons]
    omega

set_option maxRecDepth 100000 in
set_option maxHeartbeats 1600000 in
theorem sum_any (a1 a2 : Addr) (n1 c1 n2 c2 : Nat) (xs ys : List Int) (w : World) 
    (hx : Ints .i64 w (some a1) xs) (hy : Ints .i64 w (some a2) ys) (hxl : xs.length = n1) (hyl : ys.length = n2) (h1 : n1 ≤ 400) (h2 : n2 ≤ 400) (hbx : ∀ x ∈ xs ++ ys, 1 ≤ x ∧ x ≤ 200) :
    Calls Try.prog 96 #[.agg #[.slice (some a1) n1 c1, .slice (some a2) n2 c2]] w (RetV (.int .i64 (sumL (xs ++ ys))) w) := by
  have HXL := Lib.hid hxl
  have HYL := Lib.hid hyl
  have hll : (xs ++ ys).length = n1 + n2 := by simp [hxl, hyl]
  obtain ⟨W0, hW0⟩ : ∃ W0, W0 = (w.alloc (.cells #[.slice (some a1) n1 c1, .slice (some a2) n2 c2] 54)).alloc (.cells #[.slice (some a1) n1 c1, .slice (some a2) n2 c2] 31) := ⟨_, rfl⟩
  have hb0 : Below w.heap.size w W0 := by rw [hW0]; exact ((Below.refl _ _).alloc (Nat.le_refl _) _).alloc (by simp) _
  have hH0 : W0.heap[w.heap.size + 1]? = some (.cells #[.slice (some a1) n1 c1, .slice (some a2) n2 c2] 31 (0, 0)) := by rw [hW0]; exact heap_alloc_new' _ _ (by simp)
  have cc := concat_any (w.heap.size + 1) a1 a2 n1 c1 n2 c2 xs ys W0 hH0 (hx.below hb0) (hy.below hb0) hxl hyl h1 h2
  have HB := Lib.hid hbx
  clear hxl hyl hH0 hbx hx hy
  generalize hzs : xs ++ ys = zs at *
  clear hzs
  go_enter Try.func96, Try.ntmps96
  go_wp2_with fail
  rw [← hW0]
  clear hW0
  refine cc.mono ?_
  rintro e w1 ⟨v, rfl, hown, hb1⟩
  have hbl := hb0.trans (hb1.mono hb0.size)
  obtain ⟨A, c, rfl, -, -, -, hZ⟩ := hown.sli.lieA hll
  have HBL := Lib.hid hbl
  have HLL := Lib.hid hll
  clear cc hown hb1 hb0 hbl hll
  have hN : n1 + n2 ≤ 800 := by omega
  generalize n1 + n2 = N at *
  go_wp2
  go_loopw [3, 13] (fun p i wr => ∃ k : Nat, k ≤ N ∧ p = .int .i64 (sumL (zs.take k)) ∧ i = .int .i64 k ∧ w1 = wr) (fun _ i _ => N - (intOf i).toNat)
  case atStart => exact ⟨0, Nat.zero_le _, rfl, rfl, rfl⟩
  case round =>
    obtain ⟨k, hk, rfl, rfl, rfl⟩ := hrel
    by_cases hlt : k < N
    · have hlt' : k < zs.length := by rw [HLL.out]; exact hlt
      obtain ⟨b1, o1, rfl, hl1, hc1⟩ := hZ.get hlt'
      have ht : zs.take (k + 1) = zs.take k ++ [zs[k]] := by simp
      have hx := HB.out zs[k] (List.getElem_mem _)
      have hp := sumL_bound (zs.take k) (fun x hx => HB.out x (List.mem_of_mem_take hx))
      have hps := sumL_snoc (zs.take k) zs[k]
      have hkl : (zs.take k).length ≤ k := by simp; omega
      have u1 : IntKind.i64.wrap (sumL (zs.take k) + zs[k]) = sumL (zs.take k) + zs[k] := IntWalk.i64_in _ (by omega)
      have HT := Lib.hid ht
      have HPS := Lib.hid hps
      clear ht hps hp hx hkl
      generalize sumL (zs.take k) = P at *
      generalize zs[k] = x at *
      go_wp2
      go_roundw
      case rel => exact ⟨k + 1, by omega, by rw [HT.out, HPS.out], by go_num, by trivial⟩
      case measure => simp [intOf]; omega
    · have hkn : k = N := by omega
      have ht : zs.take k = zs := by rw [List.take_of_length_le (by rw [HLL.out]; omega)]
      rw [ht]
      clear ht
      obtain ⟨P, hP⟩ : ∃ P, P = sumL zs := ⟨_, rfl⟩
      rw [← hP]
      have HP := Lib.hid hP
      clear hP
      go_wp2
      go_ret
      exact ⟨by rw [← HP.out]; rfl, HBL.out⟩

set_option maxRecDepth 100000 in
set_option maxHeartbeats 800000 in
theorem compare_any (x y : Int) (w : World) : Calls Try.prog 95 #[.int .i64 x, .int .i64 y] w fun e w' => e = .returned (.int .i64 (sgn (x - y))) ∧ w' = w := by
  have cx := (isNaN_any x w).mono (R' := fun e w' => e = .returned (.bool false) ∧ w = w') fun e w' h => ⟨h.1, h.2.symm⟩
  have cy := (isNaN_any y w).mono (R' := fun e w' => e = .returned (.bool false) ∧ w = w') fun e w' h => ⟨h.1, h.2.symm⟩
  have hs : sgn (x - y) = if x < y then -1 else if y < x then 1 else 0 := by
    unfold sgn
    by_cases h1 : x < y
    · rw [if_pos (by omega), if_pos h1]
    · rw [if_neg (by omega), if_neg h1]
      by_cases h2 : y < x
      · rw [if_neg (by omega), if_pos h2]
      · rw [if_pos (by omega), if_neg h2]
  rw [hs]
  clear hs
  by_cases h1 : x < y
  · rw [if_pos h1]
    have d1 : decide (x < y) = true := decide_eq_true h1
    clear h1
    go_enter Try.func95, Try.ntmps95
    go_wp2_with fail
    refine cx.mono ?_
    rintro e w1 ⟨rfl, rfl⟩
    go_wp2_with fail
    refine cy.mono ?_
    rintro e w1 ⟨rfl, rfl⟩
    go_wp2
    go_ret
    exact ⟨rfl, rfl⟩
  · rw [if_neg h1]
    have d1 : decide (x < y) = false := decide_eq_false h1
    by_cases h2 : y < x
    · rw [if_pos h2]
      have d2 : decide (y < x) = true := decide_eq_true h2
      clear h1 h2
      go_enter Try.func95, Try.ntmps95
      go_wp2_with fail
      refine cx.mono ?_
      rintro e w1 ⟨rfl, rfl⟩
      go_wp2_with fail
      refine cy.mono ?_
      rintro e w1 ⟨rfl, rfl⟩
      go_wp2
      go_ret
      exact ⟨rfl, rfl⟩
    · rw [if_neg h2]
      have d2 : decide (y < x) = false := decide_eq_false h2
      clear h1 h2
      go_enter Try.func95, Try.ntmps95
      go_wp2_with fail
      refine cx.mono ?_
      rintro e w1 ⟨rfl, rfl⟩
      go_wp2_with fail
      refine cy.mono ?_
      rintro e w1 ⟨rfl, rfl⟩
      go_wp2
      go_ret
      exact ⟨rfl, rfl⟩

/-- The first number that is not 0. -/
def orL : List Int → Int
  | [] => 0
  | x :: r => if x = 0 then orL r else x
theorem orL_skip {l : List Int} {k : Nat} (hk : k < l.length) : orL (l.drop k) = if l[k] = 0 then orL (l.drop (k + 1)) else l[k] := by
  rw [List.drop_eq_getElem_cons hk]; rfl

set_option maxRecDepth 100000 in
set_option maxHeartbeats 800000 in
theorem or_any (A : Option Addr) (n c : Nat) (xs : List Int) (w : World) (h : Ints .i64 w A xs) (hn : xs.length = n) (h8 : n ≤ 8) :
    Calls Try.prog 94 #[.slice A n c] w fun e w' => e = .returned (.int .i64 (orL xs)) ∧ w' = w := by
  have HN := Lib.hid hn
  clear hn
  go_enter Try.func94, Try.ntmps94
  go_wp2
  go_loopw [8] (fun i wr => ∃ k : Nat, k ≤ n ∧ i = .int .i64 k ∧ orL xs = orL (xs.drop k) ∧ w = wr) (fun i _ => n - (intOf i).toNat)
  case atStart => exact ⟨0, Nat.zero_le _, rfl, by rw [List.drop_zero], rfl⟩
  case round =>
    obtain ⟨k, hk, rfl, ho, rfl⟩ := hrel
    by_cases hlt : k < n
    · have hlt' : k < xs.length := by rw [HN.out]; exact hlt
      obtain ⟨b1, o1, rfl, hl1, hc1⟩ := h.get hlt'
      rw [orL_skip hlt'] at ho
      have HO := Lib.hid ho
      clear ho
      generalize xs[k] = x at *
      by_cases hx : x = 0
      · have ho := HO.out
        rw [if_pos hx] at ho
        have HO2 := Lib.hid ho
        have d1 : (x != 0) = false := by simp [hx]
        clear ho hx HO
        go_wp2
        go_roundw
        case rel => exact ⟨k + 1, by omega, by go_num, HO2.out, by trivial⟩
        case measure => simp [intOf]; omega
      · have ho := HO.out
        rw [if_neg hx] at ho
        have HO2 := Lib.hid ho
        have d1 : (x != 0) = true := by simp [hx]
        clear ho hx HO
        go_wp2
        go_ret
        exact ⟨ret_int HO2.out.symm, rfl⟩
    · have hkn : xs.drop k = [] := List.drop_eq_nil_of_le (by rw [HN.out]; omega)
      rw [hkn] at ho
      have HO := Lib.hid ho
      clear ho hkn
      go_wp2
      go_ret
      exact ⟨by rw [HO.out]; rfl, rfl⟩

/-- The order of lists by their first difference. -/
def cmpL : List Int → List Int → Int
  | [], [] => 0
  | [], _ :: _ => -1
  | _ :: _, [] => 1
  | x :: r, y :: s => if sgn (x - y) = 0 then cmpL r s else sgn (x - y)
theorem cmpL_step {xs ys : List Int} {k : Nat} (h1 : k < xs.length) (h2 : k < ys.length) : cmpL (xs.drop k) (ys.drop k) = if sgn (xs[k] - ys[k]) = 0 then cmpL (xs.drop (k + 1)) (ys.drop (k + 1)) else sgn (xs[k] - ys[k]) := by
  rw [List.drop_eq_getElem_cons h1, List.drop_eq_getElem_cons h2]; rfl

set_option maxRecDepth 100000 in
set_option maxHeartbeats 1600000 in
theorem scompare_any (A B : Option Addr) (n c m d : Nat) (xs ys : List Int) (w : World) (hA : Ints .i64 w A xs) (hB : Ints .i64 w B ys) (hn : xs.length = n) (hm : ys.length = m) (hb : n ≤ 1000) (hb2 : m ≤ 1000) :
    Calls Try.prog 97 #[.slice A n c, .slice B m d] w fun e w' => e = .returned (.int .i64 (cmpL xs ys)) ∧ w' = w := by
  have HN := Lib.hid hn
  have HM := Lib.hid hm
  clear hn hm
  go_enter Try.func97, Try.ntmps97
  go_wp2
  go_loopw [11] (fun i wr => ∃ k : Nat, k ≤ n ∧ k ≤ m ∧ i = .int .i64 k ∧ cmpL xs ys = cmpL (xs.drop k) (ys.drop k) ∧ w = wr) (fun i _ => n - (intOf i).toNat)
  case atStart => exact ⟨0, Nat.zero_le _, Nat.zero_le _, rfl, by rw [List.drop_zero, List.drop_zero], rfl⟩
  case round =>
    obtain ⟨k, hk, hk2, rfl, ho, rfl⟩ := hrel
    by_cases hlt : k < n
    · have hlt' : k < xs.length := by rw [HN.out]; exact hlt
      obtain ⟨b1, o1, rfl, hl1, hc1⟩ := hA.get hlt'
      have i1 : (0 : Int) ≤ (k : Int) := by omega
      have i2 : (k : Int) < (n : Int) := by omega
      by_cases hlm : k < m
      · have hlm' : k < ys.length := by rw [HM.out]; exact hlm
        obtain ⟨b2, o2, rfl, hl2, hc2⟩ := hB.get hlm'
        rw [cmpL_step hlt' hlm'] at ho
        have HO := Lib.hid ho
        clear ho
        generalize xs[k] = x at *
        generalize ys[k] = y at *
        have i3 : (k : Int) < (m : Int) := by omega
        have cc := (compare_any x y w).mono (R' := fun e w' => e = .returned (.int .i64 (sgn (x - y))) ∧ w = w') fun e w' h => ⟨h.1, h.2.symm⟩
        generalize sgn (x - y) = z at *
        by_cases hz : z = 0
        · have ho := HO.out
          rw [if_pos hz] at ho
          have HO2 := Lib.hid ho
          have d1 : (z != 0) = false := by simp [hz]
          clear ho hz HO
          go_wp2_with fail
          refine cc.mono ?_
          rintro e w1 ⟨rfl, rfl⟩
          go_wp2
          go_roundw
          case rel => exact ⟨k + 1, by omega, by omega, by go_num, HO2.out, by trivial⟩
          case measure => simp [intOf]; omega
        · have ho := HO.out
          rw [if_neg hz] at ho
          have HO2 := Lib.hid ho
          have d1 : (z != 0) = true := by simp [hz]
          clear ho hz HO
          go_wp2_with fail
          refine cc.mono ?_
          rintro e w1 ⟨rfl, rfl⟩
          go_wp2
          go_ret
          exact ⟨ret_int HO2.out.symm, rfl⟩
      · have i3 : (m : Int) ≤ (k : Int) := by omega
        have hr : cmpL (xs.drop k) (ys.drop k) = 1 := by
          rw [List.drop_eq_getElem_cons hlt', List.drop_eq_nil_of_le (show ys.length ≤ k by rw [HM.out]; omega)]; rfl
        rw [hr] at ho
        have HO := Lib.hid ho
        clear ho hr
        go_wp2
        go_ret
        exact ⟨ret_int HO.out.symm, rfl⟩
    · have hx : xs.drop k = [] := List.drop_eq_nil_of_le (by rw [HN.out]; omega)
      rw [hx] at ho
      by_cases hlm : n < m
      · have hlm' : k < ys.length := by rw [HM.out]; omega
        rw [List.drop_eq_getElem_cons hlm'] at ho
        have HO := Lib.hid (show cmpL xs ys = -1 from ho)
        have i3 : (n : Int) < (m : Int) := by omega
        clear ho hx
        go_wp2
        go_ret
        exact ⟨ret_int HO.out.symm, rfl⟩
      · have hy : ys.drop k = [] := List.drop_eq_nil_of_le (by rw [HM.out]; omega)
        rw [hy] at ho
        have HO := Lib.hid (show cmpL xs ys = 0 from ho)
        have i3 : ¬ (n : Int) < (m : Int) := by omega
        clear ho hx hy
        go_wp2
        go_ret
        exact ⟨ret_int HO.out.symm, rfl⟩

end Go.Proofs.Ytklngjjokbhfpaa
