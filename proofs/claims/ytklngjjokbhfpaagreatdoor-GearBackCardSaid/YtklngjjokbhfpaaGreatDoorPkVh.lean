/- Texts Vh Vi in one. -/
import Derived.Test.YtklngjjokbhfpaaGreatDoorPkVd
namespace Go.Proofs.YtklngjjokbhfpaaGreatDoor
open Go.RowKit

theorem zeros_list (m : Nat) : (Builtin.zeroCells #[Value.int .i64 0] m).toList = (List.replicate m (0 : Int)).map (Value.int .i64) := by
  refine List.ext_getElem (by simp [Builtin.zeroCells]) fun i h1 h2 => ?_
  simp [Builtin.zeroCells, Nat.mod_one]
theorem nextslicecap_small {need cap : Nat} (h : cap < need) (hn : need ≤ 2000) : Builtin.nextslicecap need cap * 8 ≤ 281474976710656 := by
  unfold Builtin.nextslicecap
  by_cases h1 : need > 2 * cap
  · rw [if_pos h1]; omega
  · rw [if_neg h1]
    by_cases h2 : cap < 256
    · rw [if_pos h2]; omega
    · rw [if_neg h2]
      simp only [Builtin.growBy]
      repeat' split
      all_goals omega

theorem underI : Tryz.prog.underlying 3 = some (.int .i64) := by kernel_rfl
/-- append(nil, make([]int, m)...) -/
theorem run_append_nil_zeros (w : World) (ty : TypeId) (base m : Nat) (hm : 1 ≤ m ∧ m ≤ 1000) (hb : base ≤ w.heap.size) :
    ∃ g cap w', (Builtin.append_ #[41, 3] ty #[.slice none 0 0, .int .i64 m]).run Tryz.prog w = .ok (.slice (some ⟨g, 0, none⟩) m cap) w' ∧ Own 3 .i64 w' base (.slice (some ⟨g, 0, none⟩) m cap) m (List.replicate m 0) ∧ w.grownBy w' none := by
  obtain ⟨i0, hi0, hz0, hz1, hz2⟩ := info_parts elemI.info
  obtain ⟨hm', hm⟩ := hm
  have h0 : m ≠ 0 := by omega
  have hwr : IntKind.i64.wrap (m : Int) = (m : Int) := IntWalk.i64_in _ (by omega)
  have hm0 : ¬ ((m : Int) < 0) := by omega
  have hm1 : ¬ (281474976710656 < (m : Int) * 8) := by omega
  have hm2 : ¬ (281474976710656 < m * 8) := by omega
  have hzl := zeros_list m
  have hzs : (Builtin.zeroCells #[Value.int .i64 0] m).size = m := by simp [Builtin.zeroCells]
  have hmr : (List.replicate m (0 : Int)).map (Value.int .i64) = List.replicate m (Value.int .i64 0) := List.map_replicate
  rw [hmr] at hzl
  have h63 : ¬ (9223372036854775807 < (m : Int)) := by omega
  have hcap : 0 < 0 + m := by omega
  have hns := nextslicecap_small hcap (by omega)
  rw [Nat.zero_add] at hns
  have hm3 : ¬ (281474976710656 < Builtin.nextslicecap m 0 * 8) := by omega
  have hge := grownCap_ge w m 0 3
  have hcm : grownCap w m 0 3 ≤ maxLen := grownCap_le_maxLen w m 0 3 (by unfold maxLen; omega)
  have hza : Builtin.zeroCells #[Value.int .i64 0] m = (List.replicate m (Value.int .i64 0)).toArray := by rw [← hzl]
  refine ⟨w.heap.size, grownCap w m 0 3, w.drew.alloc (.cells ((List.replicate m (Value.int .i64 0)).toArray ++ Builtin.zeroCells #[Value.int .i64 0] (grownCap w m 0 3 - m)) 3), ?_, ?_, ?_⟩
  · simp [Builtin.append_, run_underlying elemI.under, run_underlying underI, sizeOf, typeInfo, zeroValue, hi0, hz0, hz1, hz2, asInt, asIntOf, hwr, hm0, hm1, h0, Value.cells, hm3, h63, Question.forced, Builtin.firstCells, newRow, grownCap, hza]
  · unfold Own
    rw [hmr]
    refine ⟨by simp, .inr ⟨w.heap.size, _, _, rfl, hb, heap_alloc_new w.drew _, hge, hcm, ?_, ?_⟩⟩
    · simp [Builtin.zeroCells]
      omega
    · rw [Nat.mul_one]
      simp only [Array.toList_append]
      exact List.take_left' (by simp)
  · exact ⟨rfl, rfl, rfl, by simp, fun k hk _ => heap_alloc_old w.drew _ hk⟩

theorem wpList_nil_zeros {ops : Array Oper} {rest : List Oper} {o : Oper} {a : Act} {Q : Exit → Act → World → Prop} (w : World) (hgd : o.guard = none) (s x : Operand)
    (ho : o.op = .call { callee := .builtin .append, args := #[s, x], argTypes := #[41, 3] })
    (base m : Nat) (hs : a.eval s = .slice none 0 0) (hx : a.eval x = .int .i64 m) (hm : 1 ≤ m ∧ m ≤ 1000) (hb : base ≤ w.heap.size)
    (hK : ∀ g cap w', Own 3 .i64 w' base (.slice (some ⟨g, 0, none⟩) m cap) m (List.replicate m 0) → w.grownBy w' none → wpList Tryz.prog ops Q rest (a.put o.dst (.slice (some ⟨g, 0, none⟩) m cap)) w') : wpList Tryz.prog ops Q (o :: rest) a w := by
  refine wpList_plain hgd fun K hK2 => ?_
  obtain ⟨g, cap, w', hr, h2, h3⟩ := run_append_nil_zeros w o.type base m hm hb
  unfold Oper.wp execOp
  simp only [ho, resolve, invoke, builtin, Sem.run_bind, Sem.run_pure, Result.andThen_ok, List.map_toArray, List.map_cons, List.map_nil, hs, hx, hr]
  exact hK2 _ _ (hK g cap w' h2 h3)

set_option maxRecDepth 100000 in
set_option maxHeartbeats 1600000 in
theorem grow_any (m : Nat) (w : World) (hm : m ≤ 1000) : Calls Tryz.prog 108 #[.slice none 0 0, .int .i64 m] w (RetI [] w) := by
  have u1 : IntKind.i64.wrap ((m : Int) - 0) = m := by rw [Int.sub_zero]; exact IntWalk.i64_in _ (by omega)
  have u2 : IntKind.i64.wrap (m : Int) = m := IntWalk.i64_in _ (by omega)
  have m0 : ¬ (m : Int) < 0 := by omega
  by_cases h0 : m = 0
  · subst h0
    go_enter Tryz.func108, Tryz.ntmps108
    go_wp2
    go_ret
    exact ⟨_, rfl, Own.nil _ _, Below.refl _ _⟩
  · have i1 : (0 : Int) < (m : Int) := by omega
    have i2 : 0 < m := by omega
    go_enter Tryz.func108, Tryz.ntmps108
    go_wp2_with (at_builtin; refine wpList_nil_zeros _ rfl _ _ rfl w.heap.size m rfl rfl (by omega) (Nat.le_refl _) ?_)
    intro g cap w1 hown hgrow
    have hb1 := (Below.refl w.heap.size w).grown hgrow (Nat.le_refl _) (by intro k hk; cases hk)
    have h2 := hown.take 0 (Nat.zero_le _)
    have hc := hown.capLe
    clear hgrow hown
    go_wp2
    go_ret
    exact ⟨_, rfl, h2, hb1⟩

def catL (xs ys : List Int) : Nat → List Int
  | 0 => []
  | 1 => xs
  | _ => xs ++ ys

set_option maxRecDepth 100000 in
set_option maxHeartbeats 1600000 in
/-- slices.Concat of two slices that are not nil. -/
theorem concat_any (H : Nat) (a1 a2 : Addr) (n1 c1 n2 c2 : Nat) (xs ys : List Int) (w : World) (hH : w.heap[H]? = some (.cells #[.slice (some a1) n1 c1, .slice (some a2) n2 c2] 41 (0, 0)))
    (hx : Ints .i64 w (some a1) xs) (hy : Ints .i64 w (some a2) ys) (hxl : xs.length = n1) (hyl : ys.length = n2) (h1 : n1 ≤ 400) (h2 : n2 ≤ 400) :
    Calls Tryz.prog 86 #[.slice (some ⟨H, 0, none⟩) 2 2] w (RetI (xs ++ ys) w) := by
  have hHl : H < w.heap.size := (Array.getElem?_eq_some_iff.1 hH).1
  have u1 : IntKind.i64.wrap (n1 : Int) = n1 := IntWalk.i64_in _ (by omega)
  have u2 : IntKind.i64.wrap ((n1 : Int) + n2) = n1 + n2 := IntWalk.i64_in _ (by omega)
  have i1 : ¬ (n1 : Int) < 0 := by omega
  have i2 : ¬ ((n1 : Int) + n2) < 0 := by omega
  have k0 : w.cell? ⟨H, 0, none⟩ = some (.slice (some a1) n1 c1) := by simp [World.cell?, hH]
  have k1 : w.cell? ⟨H, 1, none⟩ = some (.slice (some a2) n2 c2) := by simp [World.cell?, hH]
  have cg := grow_any (n1 + n2) w (by omega)
  have HXL := Lib.hid hxl
  have HYL := Lib.hid hyl
  clear hxl hyl
  go_enter Tryz.func86, Tryz.ntmps86
  go_wp2
  go_loopw [3, 11] (fun s i wr => ∃ k : Nat, k ≤ 2 ∧ i = .int .i64 k ∧ s = .int .i64 (if k = 0 then 0 else if k = 1 then (n1 : Int) else (n1 : Int) + n2) ∧ w = wr) (fun _ i _ => 2 - (intOf i).toNat)
  case atStart => exact ⟨0, by omega, rfl, rfl, rfl⟩
  case round =>
    obtain ⟨k, hk, rfl, rfl, rfl⟩ := hrel
    rcases (show k = 0 ∨ k = 1 ∨ k = 2 by omega) with rfl | rfl | rfl
    · go_wp2
      go_roundw
      case rel => exact ⟨1, by omega, by go_num, by simp, by trivial⟩
      case measure => simp [intOf]
    · go_wp2
      go_roundw
      case rel => exact ⟨2, by omega, by go_num, by simp, by trivial⟩
      case measure => simp [intOf]
    · go_wp2_with fail
      refine cg.mono ?_
      rintro e w1 ⟨v, rfl, hown, hb1⟩
      clear cg
      go_wp2
      go_loopw [6, 27] (fun v i wx => ∃ k : Nat, k ≤ 2 ∧ i = .int .i64 k ∧ Own 3 .i64 wx w.heap.size v (catL xs ys k).length (catL xs ys k) ∧ Below w.heap.size w wx) (fun _ i _ => 2 - (intOf i).toNat)
      case atStart => exact ⟨0, by omega, rfl, hown, hb1⟩
      case round =>
        clear hown hb1
        obtain ⟨k, hk, rfl, hown, hbl⟩ := hrel
        have hsz := hbl.size
        have k2 := (hbl.cell (p := ⟨H, 0, none⟩) hHl).trans k0
        have k3 := (hbl.cell (p := ⟨H, 1, none⟩) hHl).trans k1
        rcases (show k = 0 ∨ k = 1 ∨ k = 2 by omega) with rfl | rfl | rfl
        · go_wp2_with (at_builtin; refine wpList_ints _ rfl _ _ rfl w.heap.size _ 0 [] rfl hown a1 n1 c1 xs rfl (hx.below hbl) HXL.out (by omega) hsz ?_)
          intro v' w2 hown2 hgrow
          have hb2 := hbl.grown hgrow hsz (fun g hg => (hown.lt g hg).1)
          clear hown hbl hgrow k2 k3 hsz
          go_wp2
          go_roundw
          case rel => exact ⟨1, by omega, by go_num, by simpa [catL, HXL.out] using hown2, hb2⟩
          case measure => simp [intOf]
        · rw [show (catL xs ys 1).length = n1 from HXL.out] at hown
          change Own _ _ _ _ _ n1 xs at hown
          go_wp2_with (at_builtin; refine wpList_ints _ rfl _ _ rfl w.heap.size _ n1 xs rfl hown a2 n2 c2 ys rfl (hy.below hbl) HYL.out (by omega) hsz ?_)
          intro v' w2 hown2 hgrow
          have hb2 := hbl.grown hgrow hsz (fun g hg => (hown.lt g hg).1)
          clear hown hbl hgrow k2 k3 hsz
          go_wp2
          go_roundw
          case rel => exact ⟨2, by omega, by go_num, by simpa [catL, HXL.out, HYL.out] using hown2, hb2⟩
          case measure => simp [intOf]
        · have HOWN := Lib.hid hown
          have HB := Lib.hid hbl
          clear hown hbl k2 k3 hsz
          go_wp2
          go_ret
          exact ⟨_, rfl, HOWN.out, HB.out⟩

end Go.Proofs.YtklngjjokbhfpaaGreatDoor

namespace Go.Proofs.YtklngjjokbhfpaaGreatDoor
open Go.RowKit

def sumL (l : List Int) : Int := l.foldl (· + ·) 0
theorem sumL_snoc (l : List Int) (x : Int) : sumL (l ++ [x]) = sumL l + x := by simp [sumL]
theorem foldl_add : ∀ (l : List Int) (a : Int), l.foldl (· + ·) a = a + sumL l
  | [], a => by simp [sumL]
  | x :: l, a => by
    show l.foldl (· + ·) (a + x) = a + l.foldl (· + ·) (0 + x)
    rw [foldl_add l, foldl_add l]; omega
theorem sumL_cons (x : Int) (l : List Int) : sumL (x :: l) = x + sumL l := by
  show l.foldl (· + ·) (0 + x) = _
  rw [foldl_add]; omega
theorem sumL_bound : ∀ (l : List Int), (∀ x ∈ l, 1 ≤ x ∧ x ≤ 200) → 0 ≤ sumL l ∧ sumL l ≤ 200 * (l.length : Int)
  | [], _ => by simp [sumL]
  | x :: l, h => by
    have := sumL_bound l fun y hy => h y (by simp [hy])
    have := h x (by simp)
    rw [sumL_cons, List.length_cons]
    omega

set_option maxRecDepth 100000 in
set_option maxHeartbeats 1600000 in
theorem sum_any (a1 a2 : Addr) (n1 c1 n2 c2 : Nat) (xs ys : List Int) (w : World) 
    (hx : Ints .i64 w (some a1) xs) (hy : Ints .i64 w (some a2) ys) (hxl : xs.length = n1) (hyl : ys.length = n2) (h1 : n1 ≤ 400) (h2 : n2 ≤ 400) (hbx : ∀ x ∈ xs ++ ys, 1 ≤ x ∧ x ≤ 200) :
    Calls Tryz.prog 65 #[.agg #[.slice (some a1) n1 c1, .slice (some a2) n2 c2]] w (RetV (.int .i64 (sumL (xs ++ ys))) w) := by
  have HXL := Lib.hid hxl
  have HYL := Lib.hid hyl
  have hll : (xs ++ ys).length = n1 + n2 := by simp [hxl, hyl]
  obtain ⟨W0, hW0⟩ : ∃ W0, W0 = (w.alloc (.cells #[.slice (some a1) n1 c1, .slice (some a2) n2 c2] 48)).alloc (.cells #[.slice (some a1) n1 c1, .slice (some a2) n2 c2] 41) := ⟨_, rfl⟩
  have hb0 : Below w.heap.size w W0 := by rw [hW0]; exact ((Below.refl _ _).alloc (Nat.le_refl _) _).alloc (by simp) _
  have hH0 : W0.heap[w.heap.size + 1]? = some (.cells #[.slice (some a1) n1 c1, .slice (some a2) n2 c2] 41 (0, 0)) := by rw [hW0]; exact heap_alloc_new' _ _ (by simp)
  have cc := concat_any (w.heap.size + 1) a1 a2 n1 c1 n2 c2 xs ys W0 hH0 (hx.below hb0) (hy.below hb0) hxl hyl h1 h2
  have HB := Lib.hid hbx
  clear hxl hyl hH0 hbx hx hy
  generalize hzs : xs ++ ys = zs at *
  clear hzs
  go_enter Tryz.func65, Tryz.ntmps65
  go_wp2_with fail
  rw [← hW0]
  clear hW0
  refine cc.mono ?_
  rintro e w1 ⟨v, rfl, hown, hb1⟩
  have hbl := hb0.trans (hb1.mono hb0.size)
  obtain ⟨A, c, rfl, -, -, -, hZ⟩ := hown.sli.lieA hll
  have HBL := Lib.hid hbl
  have HLL := Lib.hid hll
  clear cc hown hb1 hb0 hbl hll
  have hN : n1 + n2 ≤ 800 := by omega
  generalize n1 + n2 = N at *
  go_wp2
  go_loopw [3, 13] (fun p i wr => ∃ k : Nat, k ≤ N ∧ p = .int .i64 (sumL (zs.take k)) ∧ i = .int .i64 k ∧ w1 = wr) (fun _ i _ => N - (intOf i).toNat)
  case atStart => exact ⟨0, Nat.zero_le _, rfl, rfl, rfl⟩
  case round =>
    obtain ⟨k, hk, rfl, rfl, rfl⟩ := hrel
    by_cases hlt : k < N
    · have hlt' : k < zs.length := by rw [HLL.out]; exact hlt
      obtain ⟨b1, o1, rfl, hl1, hc1⟩ := hZ.get hlt'
      have ht : zs.take (k + 1) = zs.take k ++ [zs[k]] := by simp
      have hx := HB.out zs[k] (List.getElem_mem _)
      have hp := sumL_bound (zs.take k) (fun x hx => HB.out x (List.mem_of_mem_take hx))
      have hps := sumL_snoc (zs.take k) zs[k]
      have hkl : (zs.take k).length ≤ k := by simp; omega
      have u1 : IntKind.i64.wrap (sumL (zs.take k) + zs[k]) = sumL (zs.take k) + zs[k] := IntWalk.i64_in _ (by omega)
      have HT := Lib.hid ht
      have HPS := Lib.hid hps
      clear ht hps hp hx hkl
      generalize sumL (zs.take k) = P at *
      generalize zs[k] = x at *
      go_wp2
      go_roundw
      case rel => exact ⟨k + 1, by omega, by rw [HT.out, HPS.out], by go_num, by trivial⟩
      case measure => simp [intOf]; omega
    · have hkn : k = N := by omega
      have ht : zs.take k = zs := by rw [List.take_of_length_le (by rw [HLL.out]; omega)]
      rw [ht]
      clear ht
      obtain ⟨P, hP⟩ : ∃ P, P = sumL zs := ⟨_, rfl⟩
      rw [← hP]
      have HP := Lib.hid hP
      clear hP
      go_wp2
      go_ret
      exact ⟨by rw [← HP.out]; rfl, HBL.out⟩

set_option maxRecDepth 100000 in
set_option maxHeartbeats 800000 in
theorem compare_any (x y : Int) (w : World) : Calls Tryz.prog 64 #[.int .i64 x, .int .i64 y] w fun e w' => e = .returned (.int .i64 (sgn (x - y))) ∧ w' = w := by
  have cx := (isNaN_any x w).mono (R' := fun e w' => e = .returned (.bool false) ∧ w = w') fun e w' h => ⟨h.1, h.2.symm⟩
  have cy := (isNaN_any y w).mono (R' := fun e w' => e = .returned (.bool false) ∧ w = w') fun e w' h => ⟨h.1, h.2.symm⟩
  have hs : sgn (x - y) = if x < y then -1 else if y < x then 1 else 0 := by
    unfold sgn
    by_cases h1 : x < y
    · rw [if_pos (by omega), if_pos h1]
    · rw [if_neg (by omega), if_neg h1]
      by_cases h2 : y < x
      · rw [if_neg (by omega), if_pos h2]
      · rw [if_pos (by omega), if_neg h2]
  rw [hs]
  clear hs
  by_cases h1 : x < y
  · rw [if_pos h1]
    have d1 : decide (x < y) = true := decide_eq_true h1
    clear h1
    go_enter Tryz.func64, Tryz.ntmps64
    go_wp2_with fail
    refine cx.mono ?_
    rintro e w1 ⟨rfl, rfl⟩
    go_wp2_with fail
    refine cy.mono ?_
    rintro e w1 ⟨rfl, rfl⟩
    go_wp2
    go_ret
    exact ⟨rfl, rfl⟩
  · rw [if_neg h1]
    have d1 : decide (x < y) = false := decide_eq_false h1
    by_cases h2 : y < x
    · rw [if_pos h2]
      have d2 : decide (y < x) = true := decide_eq_true h2
      clear h1 h2
      go_enter Tryz.func64, Tryz.ntmps64
      go_wp2_with fail
      refine cx.mono ?_
      rintro e w1 ⟨rfl, rfl⟩
      go_wp2_with fail
      refine cy.mono ?_
      rintro e w1 ⟨rfl, rfl⟩
      go_wp2
      go_ret
      exact ⟨rfl, rfl⟩
    · rw [if_neg h2]
      have d2 : decide (y < x) = false := decide_eq_false h2
      clear h1 h2
      go_enter Tryz.func64, Tryz.ntmps64
      go_wp2_with fail
      refine cx.mono ?_
      rintro e w1 ⟨rfl, rfl⟩
      go_wp2_with fail
      refine cy.mono ?_
      rintro e w1 ⟨rfl, rfl⟩
      go_wp2
      go_ret
      exact ⟨rfl, rfl⟩

/-- The first number that is not 0. -/
def orL : List Int → Int
  | [] => 0
  | x :: r => if x = 0 then orL r else x
theorem orL_skip {l : List Int} {k : Nat} (hk : k < l.length) : orL (l.drop k) = if l[k] = 0 then orL (l.drop (k + 1)) else l[k] := by
  rw [List.drop_eq_getElem_cons hk]; rfl

set_option maxRecDepth 100000 in
set_option maxHeartbeats 800000 in
theorem or_any (A : Option Addr) (n c : Nat) (xs : List Int) (w : World) (h : Ints .i64 w A xs) (hn : xs.length = n) (h8 : n ≤ 8) :
    Calls Tryz.prog 63 #[.slice A n c] w fun e w' => e = .returned (.int .i64 (orL xs)) ∧ w' = w := by
  have HN := Lib.hid hn
  clear hn
  go_enter Tryz.func63, Tryz.ntmps63
  go_wp2
  go_loopw [8] (fun i wr => ∃ k : Nat, k ≤ n ∧ i = .int .i64 k ∧ orL xs = orL (xs.drop k) ∧ w = wr) (fun i _ => n - (intOf i).toNat)
  case atStart => exact ⟨0, Nat.zero_le _, rfl, by rw [List.drop_zero], rfl⟩
  case round =>
    obtain ⟨k, hk, rfl, ho, rfl⟩ := hrel
    by_cases hlt : k < n
    · have hlt' : k < xs.length := by rw [HN.out]; exact hlt
      obtain ⟨b1, o1, rfl, hl1, hc1⟩ := h.get hlt'
      rw [orL_skip hlt'] at ho
      have HO := Lib.hid ho
      clear ho
      generalize xs[k] = x at *
      by_cases hx : x = 0
      · have ho := HO.out
        rw [if_pos hx] at ho
        have HO2 := Lib.hid ho
        have d1 : (x != 0) = false := by simp [hx]
        clear ho hx HO
        go_wp2
        go_roundw
        case rel => exact ⟨k + 1, by omega, by go_num, HO2.out, by trivial⟩
        case measure => simp [intOf]; omega
      · have ho := HO.out
        rw [if_neg hx] at ho
        have HO2 := Lib.hid ho
        have d1 : (x != 0) = true := by simp [hx]
        clear ho hx HO
        go_wp2
        go_ret
        exact ⟨ret_int HO2.out.symm, rfl⟩
    · have hkn : xs.drop k = [] := List.drop_eq_nil_of_le (by rw [HN.out]; omega)
      rw [hkn] at ho
      have HO := Lib.hid ho
      clear ho hkn
      go_wp2
      go_ret
      exact ⟨by rw [HO.out]; rfl, rfl⟩

/-- The order of lists by their first difference. -/
def cmpL : List Int → List Int → Int
  | [], [] => 0
  | [], _ :: _ => -1
  | _ :: _, [] => 1
  | x :: r, y :: s => if sgn (x - y) = 0 then cmpL r s else sgn (x - y)
theorem cmpL_step {xs ys : List Int} {k : Nat} (h1 : k < xs.length) (h2 : k < ys.length) : cmpL (xs.drop k) (ys.drop k) = if sgn (xs[k] - ys[k]) = 0 then cmpL (xs.drop (k + 1)) (ys.drop (k + 1)) else sgn (xs[k] - ys[k]) := by
  rw [List.drop_eq_getElem_cons h1, List.drop_eq_getElem_cons h2]; rfl

set_option maxRecDepth 100000 in
set_option maxHeartbeats 1600000 in
theorem scompare_any (A B : Option Addr) (n c m d : Nat) (xs ys : List Int) (w : World) (hA : Ints .i64 w A xs) (hB : Ints .i64 w B ys) (hn : xs.length = n) (hm : ys.length = m) (hb : n ≤ 1000) (_hb2 : m ≤ 1000) :
    Calls Tryz.prog 66 #[.slice A n c, .slice B m d] w fun e w' => e = .returned (.int .i64 (cmpL xs ys)) ∧ w' = w := by
  have HN := Lib.hid hn
  have HM := Lib.hid hm
  clear hn hm
  go_enter Tryz.func66, Tryz.ntmps66
  go_wp2
  go_loopw [11] (fun i wr => ∃ k : Nat, k ≤ n ∧ k ≤ m ∧ i = .int .i64 k ∧ cmpL xs ys = cmpL (xs.drop k) (ys.drop k) ∧ w = wr) (fun i _ => n - (intOf i).toNat)
  case atStart => exact ⟨0, Nat.zero_le _, Nat.zero_le _, rfl, by rw [List.drop_zero, List.drop_zero], rfl⟩
  case round =>
    obtain ⟨k, hk, hk2, rfl, ho, rfl⟩ := hrel
    by_cases hlt : k < n
    · have hlt' : k < xs.length := by rw [HN.out]; exact hlt
      obtain ⟨b1, o1, rfl, hl1, hc1⟩ := hA.get hlt'
      have i1 : (0 : Int) ≤ (k : Int) := by omega
      have i2 : (k : Int) < (n : Int) := by omega
      by_cases hlm : k < m
      · have hlm' : k < ys.length := by rw [HM.out]; exact hlm
        obtain ⟨b2, o2, rfl, hl2, hc2⟩ := hB.get hlm'
        rw [cmpL_step hlt' hlm'] at ho
        have HO := Lib.hid ho
        clear ho
        generalize xs[k] = x at *
        generalize ys[k] = y at *
        have i3 : (k : Int) < (m : Int) := by omega
        have cc := (compare_any x y w).mono (R' := fun e w' => e = .returned (.int .i64 (sgn (x - y))) ∧ w = w') fun e w' h => ⟨h.1, h.2.symm⟩
        generalize sgn (x - y) = z at *
        by_cases hz : z = 0
        · have ho := HO.out
          rw [if_pos hz] at ho
          have HO2 := Lib.hid ho
          have d1 : (z != 0) = false := by simp [hz]
          clear ho hz HO
          go_wp2_with fail
          refine cc.mono ?_
          rintro e w1 ⟨rfl, rfl⟩
          go_wp2
          go_roundw
          case rel => exact ⟨k + 1, by omega, by omega, by go_num, HO2.out, by trivial⟩
          case measure => simp [intOf]; omega
        · have ho := HO.out
          rw [if_neg hz] at ho
          have HO2 := Lib.hid ho
          have d1 : (z != 0) = true := by simp [hz]
          clear ho hz HO
          go_wp2_with fail
          refine cc.mono ?_
          rintro e w1 ⟨rfl, rfl⟩
          go_wp2
          go_ret
          exact ⟨ret_int HO2.out.symm, rfl⟩
      · have i3 : (m : Int) ≤ (k : Int) := by omega
        have hr : cmpL (xs.drop k) (ys.drop k) = 1 := by
          rw [List.drop_eq_getElem_cons hlt', List.drop_eq_nil_of_le (show ys.length ≤ k by rw [HM.out]; omega)]; rfl
        rw [hr] at ho
        have HO := Lib.hid ho
        clear ho hr
        go_wp2
        go_ret
        exact ⟨ret_int HO.out.symm, rfl⟩
    · have hx : xs.drop k = [] := List.drop_eq_nil_of_le (by rw [HN.out]; omega)
      rw [hx] at ho
      by_cases hlm : n < m
      · have hlm' : k < ys.length := by rw [HM.out]; omega
        rw [List.drop_eq_getElem_cons hlm'] at ho
        have HO := Lib.hid (show cmpL xs ys = -1 from ho)
        have i3 : (n : Int) < (m : Int) := by omega
        clear ho hx
        go_wp2
        go_ret
        exact ⟨ret_int HO.out.symm, rfl⟩
      · have hy : ys.drop k = [] := List.drop_eq_nil_of_le (by rw [HM.out]; omega)
        rw [hy] at ho
        have HO := Lib.hid (show cmpL xs ys = 0 from ho)
        have i3 : ¬ (n : Int) < (m : Int) := by omega
        clear ho hx hy
        go_wp2
        go_ret
        exact ⟨ret_int HO.out.symm, rfl⟩

end Go.Proofs.YtklngjjokbhfpaaGreatDoor
