/- slices.Grow of nil, slices.Concat of two; gear's sum. -/
import Derived.Test.YtklngjjokbhfpaaVe
namespace Go.Proofs.Ytklngjjokbhfpaa
open Go.RowKit

theorem zeros_list (m : Nat) : (Builtin.zeroCells #[Value.int .i64 0] m).toList = (List.replicate m (0 : Int)).map (Value.int .i64) := by
  refine List.ext_getElem (by simp [Builtin.zeroCells]) fun i h1 h2 => ?_
  simp [Builtin.zeroCells, Nat.mod_one]
theorem nextslicecap_small {need cap : Nat} (h : cap < need) (hn : need ≤ 2000) : Builtin.nextslicecap need cap * 8 ≤ 281474976710656 := by
  unfold Builtin.nextslicecap
  by_cases h1 : need > 2 * cap
  · rw [if_pos h1]; omega
  · rw [if_neg h1]
    by_cases h2 : cap < 256
    · rw [if_pos h2]; omega
    · rw [if_neg h2]
      simp only [Builtin.growBy]
      repeat' split
      all_goals omega

theorem underI : Try.prog.underlying 3 = some (.int .i64) := by kernel_rfl
/-- append(nil, make([]int, m)...) -/
theorem run_append_nil_zeros (w : World) (ty : TypeId) (base m : Nat) (hm : 1 ≤ m ∧ m ≤ 1000) (hb : base ≤ w.heap.size) :
    ∃ g cap w', (Builtin.append_ #[31, 3] ty #[.slice none 0 0, .int .i64 m]).run Try.prog w = .ok (.slice (some ⟨g, 0, none⟩) m cap) w' ∧ Own 3 .i64 w' base (.slice (some ⟨g, 0, none⟩) m cap) m (List.replicate m 0) ∧ w.grownBy w' none := by
  obtain ⟨i0, hi0, hz0, hz1, hz2⟩ := info_parts elemI.info
  obtain ⟨hm', hm⟩ := hm
  have h0 : m ≠ 0 := by omega
  have hwr : IntKind.i64.wrap (m : Int) = (m : Int) := IntWalk.i64_in _ (by omega)
  have hm0 : ¬ ((m : Int) < 0) := by omega
  have hm1 : ¬ (281474976710656 < (m : Int) * 8) := by omega
  have hm2 : ¬ (281474976710656 < m * 8) := by omega
  have hzl := zeros_list m
  have hzs : (Builtin.zeroCells #[Value.int .i64 0] m).size = m := by simp [Builtin.zeroCells]
  have hmr : (List.replicate m (0 : Int)).map (Value.int .i64) = List.replicate m (Value.int .i64 0) := List.map_replicate
  rw [hmr] at hzl
  have h63 : ¬ (9223372036854775807 < (m : Int)) := by omega
  have hcap : 0 < 0 + m := by omega
  have hns := nextslicecap_small hcap (by omega)
  rw [Nat.zero_add] at hns
  have hm3 : ¬ (281474976710656 < Builtin.nextslicecap m 0 * 8) := by omega
  have hge := grownCap_ge w m 0 3
  have hcm : grownCap w m 0 3 ≤ maxLen := grownCap_le_maxLen w m 0 3 (by unfold maxLen; omega)
  have hza : Builtin.zeroCells #[Value.int .i64 0] m = (List.replicate m (Value.int .i64 0)).toArray := by rw [← hzl]
  refine ⟨w.heap.size, grownCap w m 0 3, w.drew.alloc (.cells ((List.replicate m (Value.int .i64 0)).toArray ++ Builtin.zeroCells #[Value.int .i64 0] (grownCap w m 0 3 - m)) 3), ?_, ?_, ?_⟩
  · simp [Builtin.append_, run_underlying elemI.under, run_underlying underI, sizeOf, typeInfo, zeroValue, hi0, hz0, hz1, hz2, asInt, asIntOf, hwr, hm0, hm1, h0, Value.cells, hm3, h63, Question.forced, Builtin.firstCells, newRow, grownCap, hza]
  · unfold Own
    rw [hmr]
    refine ⟨by simp, .inr ⟨w.heap.size, _, _, rfl, hb, heap_alloc_new w.drew _, hge, hcm, ?_, ?_⟩⟩
    · simp [Builtin.zeroCells]
      omega
    · rw [Nat.mul_one]
      simp only [Array.toList_append]
      exact List.take_left' (by simp)
  · exact ⟨rfl, rfl, rfl, by simp, fun k hk _ => heap_alloc_old w.drew _ hk⟩

theorem wpList_nil_zeros {ops : Array Oper} {rest : List Oper} {o : Oper} {a : Act} {Q : Exit → Act → World → Prop} (w : World) (hgd : o.guard = none) (s x : Operand)
    (ho : o.op = .call { callee := .builtin .append, args := #[s, x], argTypes := #[31, 3] })
    (base m : Nat) (hs : a.eval s = .slice none 0 0) (hx : a.eval x = .int .i64 m) (hm : 1 ≤ m ∧ m ≤ 1000) (hb : base ≤ w.heap.size)
    (hK : ∀ g cap w', Own 3 .i64 w' base (.slice (some ⟨g, 0, none⟩) m cap) m (List.replicate m 0) → w.grownBy w' none → wpList Try.prog ops Q rest (a.put o.dst (.slice (some ⟨g, 0, none⟩) m cap)) w') : wpList Try.prog ops Q (o :: rest) a w := by
  refine wpList_plain hgd fun K hK2 => ?_
  obtain ⟨g, cap, w', hr, h2, h3⟩ := run_append_nil_zeros w o.type base m hm hb
  unfold Oper.wp execOp
  simp only [ho, resolve, invoke, builtin, Sem.run_bind, Sem.run_pure, Result.andThen_ok, List.map_toArray, List.map_cons, List.map_nil, hs, hx, hr]
  exact hK2 _ _ (hK g cap w' h2 h3)

set_option maxRecDepth 100000 in
set_option maxHeartbeats 1600000 in
theorem grow_any (m : Nat) (w : World) (hm : m ≤ 1000) : Calls Try.prog 81 #[.slice none 0 0, .int .i64 m] w (RetI [] w) := by
  have u1 : IntKind.i64.wrap ((m : Int) - 0) = m := by rw [Int.sub_zero]; exact IntWalk.i64_in _ (by omega)
  have u2 : IntKind.i64.wrap (m : Int) = m := IntWalk.i64_in _ (by omega)
  have m0 : ¬ (m : Int) < 0 := by omega
  by_cases h0 : m = 0
  · subst h0
    go_enter Try.func81, Try.ntmps81
    go_wp2
    go_ret
    exact ⟨_, rfl, Own.nil _ _, Below.refl _ _⟩
  · have i1 : (0 : Int) < (m : Int) := by omega
    have i2 : 0 < m := by omega
    go_enter Try.func81, Try.ntmps81
    go_wp2_with (at_builtin; refine wpList_nil_zeros _ rfl _ _ rfl w.heap.size m rfl rfl (by omega) (Nat.le_refl _) ?_)
    intro g cap w1 hown hgrow
    have hb1 := (Below.refl w.heap.size w).grown hgrow (Nat.le_refl _) (by intro k hk; cases hk)
    have h2 := hown.take 0 (Nat.zero_le _)
    have hc := hown.capLe
    clear hgrow hown
    go_wp2
    go_ret
    exact ⟨_, rfl, h2, hb1⟩

def catL (xs ys : List Int) : Nat → List Int
  | 0 => []
  | 1 => xs
  | _ => xs ++ ys

set_option maxRecDepth 100000 in
set_option maxHeartbeats 1600000 in
/-- slices.Concat of two slices that are not nil. -/
theorem concat_any (H : Nat) (a1 a2 : Addr) (n1 c1 n2 c2 : Nat) (xs ys : List Int) (w : World) (hH : w.heap[H]? = some (.cells #[.slice (some a1) n1 c1, .slice (some a2) n2 c2] 31 (0, 0)))
    (hx : Ints .i64 w (some a1) xs) (hy : Ints .i64 w (some a2) ys) (hxl : xs.length = n1) (hyl : ys.length = n2) (h1 : n1 ≤ 400) (h2 : n2 ≤ 400) :
    Calls Try.prog 53 #[.slice (some ⟨H, 0, none⟩) 2 2] w (RetI (xs ++ ys) w) := by
  have hHl : H < w.heap.size := (Array.getElem?_eq_some_iff.1 hH).1
  have u1 : IntKind.i64.wrap (n1 : Int) = n1 := IntWalk.i64_in _ (by omega)
  have u2 : IntKind.i64.wrap ((n1 : Int) + n2) = n1 + n2 := IntWalk.i64_in _ (by omega)
  have i1 : ¬ (n1 : Int) < 0 := by omega
  have i2 : ¬ ((n1 : Int) + n2) < 0 := by omega
  have k0 : w.cell? ⟨H, 0, none⟩ = some (.slice (some a1) n1 c1) := by simp [World.cell?, hH]
  have k1 : w.cell? ⟨H, 1, none⟩ = some (.slice (some a2) n2 c2) := by simp [World.cell?, hH]
  have cg := grow_any (n1 + n2) w (by omega)
  have HXL := Lib.hid hxl
  have HYL := Lib.hid hyl
  clear hxl hyl
  go_enter Try.func53, Try.ntmps53
  go_wp2
  go_loopw [3, 11] (fun s i wr => ∃ k : Nat, k ≤ 2 ∧ i = .int .i64 k ∧ s = .int .i64 (if k = 0 then 0 else if k = 1 then (n1 : Int) else (n1 : Int) + n2) ∧ w = wr) (fun _ i _ => 2 - (intOf i).toNat)
  case atStart => exact ⟨0, by omega, rfl, rfl, rfl⟩
  case round =>
    obtain ⟨k, hk, rfl, rfl, rfl⟩ := hrel
    rcases (show k = 0 ∨ k = 1 ∨ k = 2 by omega) with rfl | rfl | rfl
    · go_wp2
      go_roundw
      case rel => exact ⟨1, by omega, by go_num, by simp [u1], by trivial⟩
      case measure => simp [intOf]
    · go_wp2
      go_roundw
      case rel => exact ⟨2, by omega, by go_num, by simp [u2], by trivial⟩
      case measure => simp [intOf]
    · go_wp2_with fail
      refine cg.mono ?_
      rintro e w1 ⟨v, rfl, hown, hb1⟩
      clear cg
      go_wp2
      go_loopw [6, 27] (fun v i wx => ∃ k : Nat, k ≤ 2 ∧ i = .int .i64 k ∧ Own 3 .i64 wx w.heap.size v (catL xs ys k).length (catL xs ys k) ∧ Below w.heap.size w wx) (fun _ i _ => 2 - (intOf i).toNat)
      case atStart => exact ⟨0, by omega, rfl, hown, hb1⟩
      case round =>
        clear hown hb1
        obtain ⟨k, hk, rfl, hown, hbl⟩ := hrel
        have hsz := hbl.size
        have k2 := (hbl.cell (p := ⟨H, 0, none⟩) hHl).trans k0
        have k3 := (hbl.cell (p := ⟨H, 1, none⟩) hHl).trans k1
        rcases (show k = 0 ∨ k = 1 ∨ k = 2 by omega) with rfl | rfl | rfl
        · go_wp2_with (at_builtin; refine wpList_ints _ rfl _ _ rfl w.heap.size _ 0 [] rfl hown a1 n1 c1 xs rfl (hx.below hbl) HXL.out (by omega) hsz ?_)
          intro v' w2 hown2 hgrow
          have hb2 := hbl.grown hgrow hsz (fun g hg => (hown.lt g hg).1)
          clear hown hbl hgrow k2 k3 hsz
          go_wp2
          go_roundw
          case rel => exact ⟨1, by omega, by go_num, by simpa [catL, HXL.out] using hown2, hb2⟩
          case measure => simp [intOf]
        · rw [show (catL xs ys 1).length = n1 from HXL.out] at hown
          change Own _ _ _ _ _ n1 xs at hown
          go_wp2_with (at_builtin; refine wpList_ints _ rfl _ _ rfl w.heap.size _ n1 xs rfl hown a2 n2 c2 ys rfl (hy.below hbl) HYL.out (by omega) hsz ?_)
          intro v' w2 hown2 hgrow
          have hb2 := hbl.grown hgrow hsz (fun g hg => (hown.lt g hg).1)
          clear hown hbl hgrow k2 k3 hsz
          go_wp2
          go_roundw
          case rel => exact ⟨2, by omega, by go_num, by simpa [catL, HXL.out, HYL.out] using hown2, hb2⟩
          case measure => simp [intOf]
        · have HOWN := Lib.hid hown
          have HB := Lib.hid hbl
          clear hown hbl k2 k3 hsz
          go_wp2
          go_ret
          exact ⟨_, rfl, HOWN.out, HB.out⟩

end Go.Proofs.Ytklngjjokbhfpaa
