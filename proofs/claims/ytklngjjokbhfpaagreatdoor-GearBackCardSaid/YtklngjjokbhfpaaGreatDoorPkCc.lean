/- Texts Cc Cd in one. -/
import Derived.Test.YtklngjjokbhfpaaGreatDoorPkCa
namespace Go.Proofs.YtklngjjokbhfpaaGreatDoor
open Go.RowKit

def RetD (z : Int) (N : Nat) (w : World) (e : Ending) (w' : World) : Prop := ∃ v zs, e = .returned v ∧ Digs w' v zs ∧ DG.dv DG.b4 zs = z ∧ zs.length ≤ N ∧ Below w.heap.size w w'

set_option maxRecDepth 100000 in
set_option maxHeartbeats 1600000 in
theorem rplus_any {w : World} {u v : Value} {x y : Int} {N M : Nat} (hu : RMag w u x N) (hv : RMag w v y M) (hN : N ≤ 10000) (hM : M ≤ 10000) :
    Calls Tryz.prog 73 #[u, v] w (RetD (x + y) (max N M + 1) w) := by
  obtain ⟨A, n, c, xs, rfl, hn, _, _, _, hA, hx, nx, hxv, hnN⟩ := hu
  obtain ⟨C, m, d, ys, rfl, hm, _, _, _, hC, hy, ny, hyv, hmM⟩ := hv
  have hX := fun i => hx.getD DG.b4_one i
  have hY := fun i => hy.getD DG.b4_one i
  have hd1 := DG.ds_getD DG.b4 xs
  have hd2 := DG.ds_getD DG.b4 ys
  rw [hxv] at hd1
  rw [hyv] at hd2
  have hX0 : ∀ i, n ≤ i → xs.getD i 0 = 0 := fun i hi => by simp only [List.getD]; rw [List.getElem?_eq_none (by omega)]; rfl
  have hY0 : ∀ i, m ≤ i → ys.getD i 0 = 0 := fun i hi => by simp only [List.getD]; rw [List.getElem?_eq_none (by omega)]; rfl
  have hXk : ∀ i (hi : i < xs.length), xs[i]'hi = xs.getD i 0 := fun i hi => by simp [List.getD, hi]
  have hYk : ∀ i (hi : i < ys.length), ys[i]'hi = ys.getD i 0 := fun i hi => by simp [List.getD, hi]
  rw [hn] at hd1
  rw [hm] at hd2
  have HN := Lib.hid hn
  have HM := Lib.hid hm
  have HD1 := Lib.hid hd1
  have HD2 := Lib.hid hd2
  have HXK := Lib.hid hXk
  have HYK := Lib.hid hYk
  have HX0 := Lib.hid hX0
  have HY0 := Lib.hid hY0
  have HX := Lib.hid hX
  have HY := Lib.hid hY
  clear hx hy hn hm hd1 hd2 hXk hYk hX0 hY0 nx ny hX hY
  obtain ⟨X, hXd⟩ : ∃ X : Nat → Int, X = fun i => xs.getD i 0 := ⟨_, rfl⟩
  obtain ⟨Y, hYd⟩ : ∃ Y : Nat → Int, Y = fun i => ys.getD i 0 := ⟨_, rfl⟩
  have HXD := Lib.hid hXd
  have HYD := Lib.hid hYd
  have hX : ∀ i, 0 ≤ X i ∧ X i < DG.b4 := by rw [hXd]; exact HX.out
  have hY : ∀ i, 0 ≤ Y i ∧ Y i < DG.b4 := by rw [hYd]; exact HY.out
  have HX2 := Lib.hid hX
  have HY2 := Lib.hid hY
  clear hXd hYd hX hY

  go_enter Tryz.func73, Tryz.ntmps73
  go_wp2
  go_loopw [5, 6, 7, 8] (fun o cc i _ wr => ∃ k : Nat, k ≤ max n m + 1 ∧ i = .int .i64 k ∧ cc = .int .i64 (DG.carry DG.b4 X Y k) ∧ (k = max n m + 1 → DG.carry DG.b4 X Y k = 0) ∧ Own 3 .i64 wr w.heap.size o k ((List.range k).map (DG.sumD DG.b4 X Y)) ∧ Below w.heap.size w wr) (fun _ _ i _ _ => max n m + 1 - (intOf i).toNat)
  case atStart => exact ⟨0, by omega, rfl, rfl, fun h => by omega, World.ownsRow_lit w #[] 0 (Nat.le_refl _) (by simp [maxLen]) rfl, (Below.refl _ _).alloc (Nat.le_refl _) _⟩
  case round =>
    obtain ⟨k, hk, rfl, rfl, hke, hown, hbl⟩ := hrel
    have hsz := hbl.size
    have hcb := DG.carry_bd DG.b4_two HX2.out HY2.out k
    have hxb := HX2.out k
    have hyb := HY2.out k
    have hsd : DG.sumD DG.b4 X Y k = (X k + Y k + DG.carry DG.b4 X Y k) % 10000 := rfl
    have hcd : DG.carry DG.b4 X Y (k + 1) = (X k + Y k + DG.carry DG.b4 X Y k) / 10000 := rfl
    have HSN := Lib.hid (DG.range_snoc (DG.sumD DG.b4 X Y) k)
    have hx0 : n ≤ k → X k = 0 := fun h => by rw [HXD.out]; exact HX0.out k h
    have hy0 : m ≤ k → Y k = 0 := fun h => by rw [HYD.out]; exact HY0.out k h
    have hco : n ≤ k → m ≤ k → DG.carry DG.b4 X Y (k + 1) = 0 := fun a b => DG.carry_out DG.b4_two HX2.out HY2.out (hx0 a) (hy0 b)
    have HDG := Lib.hid (DG.sumD_dig DG.b4_two X Y k)
    have HEN := Lib.hid (fun h => DG.sum_end (b := DG.b4) (x := X) (y := Y) (k := k) h)
    rw [show DG.b4 = 10000 from rfl] at hxb hyb
    by_cases h1 : k < n
    · by_cases h2 : k < m
      · skip
        obtain ⟨b1, o1, rfl, hl1, hc1⟩ := (hA.below hbl).get (k := k) (by rw [HN.out]; exact h1)
        rw [HXK.out k (by rw [HN.out]; exact h1), show xs.getD k 0 = X k by rw [HXD.out]] at hc1
        obtain ⟨b2, o2, rfl, hl2, hc2⟩ := (hC.below hbl).get (k := k) (by rw [HM.out]; exact h2)
        rw [HYK.out k (by rw [HM.out]; exact h2), show ys.getD k 0 = Y k by rw [HYD.out]] at hc2
        generalize DG.sumD DG.b4 X Y k = q at *
        generalize hcn : DG.carry DG.b4 X Y (k + 1) = cn at *
        generalize hcv : DG.carry DG.b4 X Y k = cv at *
        generalize X k = x at *
        generalize Y k = y at *
        generalize (List.range k).map (DG.sumD DG.b4 X Y) = zs at *
        have t1 : Int.tmod (cv + x + y) 10000 = q := by rw [Int.tmod_eq_emod_of_nonneg (by omega)]; omega
        have t2 : Int.tdiv (cv + x + y) 10000 = cn := by rw [Int.tdiv_eq_ediv_of_nonneg (by omega)]; omega
        have q1 : 0 ≤ q ∧ q < 10000 := by omega
        have q2 : 0 ≤ cn ∧ cn ≤ 1 := by omega
        have u1 : IntKind.i64.wrap q = q := IntWalk.i64_in _ (by omega)
        have u2 : IntKind.i64.wrap cn = cn := IntWalk.i64_in _ (by omega)
        have HK := Lib.hid hke
        have HCN := Lib.hid hcn
        have HCO := Lib.hid (fun h : max n m ≤ k => hco (by omega) (by omega))
        clear hsd hcd hx0 hy0 hke hcn hco HEN
        go_wp2_with (at_builtin; refine wpList_one elemI _ rfl _ _ rfl w.heap.size u5 k zs rfl (hown.alloc _) wr.heap.size q rfl (heap_alloc_new wr _) (by omega) (by simp; omega) (wr.heap.size + 1) (by simp) ?_)
        intro g cap W2 hown2 hgrow _ hg2
        have hb2 := (hbl.alloc hsz (.cells #[.int .i64 q] 3)).grown hgrow (by simp; omega) (fun g hg => (hown.lt g hg).1)
        clear hown hbl hgrow
        go_wp2
        go_roundw
        case rel => exact ⟨k + 1, by omega, by go_num, by rw [HCN.out], fun h => by rw [HCN.out]; exact HCO.out (by omega), by rw [← HSN.out]; exact hown2, hb2⟩
        case measure => simp [intOf]; omega
      · skip
        obtain ⟨b1, o1, rfl, hl1, hc1⟩ := (hA.below hbl).get (k := k) (by rw [HN.out]; exact h1)
        rw [HXK.out k (by rw [HN.out]; exact h1), show xs.getD k 0 = X k by rw [HXD.out]] at hc1
        have ey := hy0 (by omega)
        generalize DG.sumD DG.b4 X Y k = q at *
        generalize hcn : DG.carry DG.b4 X Y (k + 1) = cn at *
        generalize hcv : DG.carry DG.b4 X Y k = cv at *
        generalize X k = x at *
        generalize Y k = y at *
        generalize (List.range k).map (DG.sumD DG.b4 X Y) = zs at *
        have t1 : Int.tmod (cv + x) 10000 = q := by rw [Int.tmod_eq_emod_of_nonneg (by omega)]; omega
        have t2 : Int.tdiv (cv + x) 10000 = cn := by rw [Int.tdiv_eq_ediv_of_nonneg (by omega)]; omega
        have q1 : 0 ≤ q ∧ q < 10000 := by omega
        have q2 : 0 ≤ cn ∧ cn ≤ 1 := by omega
        have u1 : IntKind.i64.wrap q = q := IntWalk.i64_in _ (by omega)
        have u2 : IntKind.i64.wrap cn = cn := IntWalk.i64_in _ (by omega)
        have HK := Lib.hid hke
        have HCN := Lib.hid hcn
        have HCO := Lib.hid (fun h : max n m ≤ k => hco (by omega) (by omega))
        clear hsd hcd hx0 hy0 hke hcn hco HEN
        clear  ey
        go_wp2_with (at_builtin; refine wpList_one elemI _ rfl _ _ rfl w.heap.size u5 k zs rfl (hown.alloc _) wr.heap.size q rfl (heap_alloc_new wr _) (by omega) (by simp; omega) (wr.heap.size + 1) (by simp) ?_)
        intro g cap W2 hown2 hgrow _ hg2
        have hb2 := (hbl.alloc hsz (.cells #[.int .i64 q] 3)).grown hgrow (by simp; omega) (fun g hg => (hown.lt g hg).1)
        clear hown hbl hgrow
        go_wp2
        go_roundw
        case rel => exact ⟨k + 1, by omega, by go_num, by rw [HCN.out], fun h => by rw [HCN.out]; exact HCO.out (by omega), by rw [← HSN.out]; exact hown2, hb2⟩
        case measure => simp [intOf]; omega
    · by_cases h2 : k < m
      · skip
        have ex := hx0 (by omega)
        obtain ⟨b2, o2, rfl, hl2, hc2⟩ := (hC.below hbl).get (k := k) (by rw [HM.out]; exact h2)
        rw [HYK.out k (by rw [HM.out]; exact h2), show ys.getD k 0 = Y k by rw [HYD.out]] at hc2
        generalize DG.sumD DG.b4 X Y k = q at *
        generalize hcn : DG.carry DG.b4 X Y (k + 1) = cn at *
        generalize hcv : DG.carry DG.b4 X Y k = cv at *
        generalize X k = x at *
        generalize Y k = y at *
        generalize (List.range k).map (DG.sumD DG.b4 X Y) = zs at *
        have t1 : Int.tmod (cv + y) 10000 = q := by rw [Int.tmod_eq_emod_of_nonneg (by omega)]; omega
        have t2 : Int.tdiv (cv + y) 10000 = cn := by rw [Int.tdiv_eq_ediv_of_nonneg (by omega)]; omega
        have q1 : 0 ≤ q ∧ q < 10000 := by omega
        have q2 : 0 ≤ cn ∧ cn ≤ 1 := by omega
        have u1 : IntKind.i64.wrap q = q := IntWalk.i64_in _ (by omega)
        have u2 : IntKind.i64.wrap cn = cn := IntWalk.i64_in _ (by omega)
        have HK := Lib.hid hke
        have HCN := Lib.hid hcn
        have HCO := Lib.hid (fun h : max n m ≤ k => hco (by omega) (by omega))
        clear hsd hcd hx0 hy0 hke hcn hco HEN
        clear  ex
        go_wp2_with (at_builtin; refine wpList_one elemI _ rfl _ _ rfl w.heap.size u5 k zs rfl (hown.alloc _) wr.heap.size q rfl (heap_alloc_new wr _) (by omega) (by simp; omega) (wr.heap.size + 1) (by simp) ?_)
        intro g cap W2 hown2 hgrow _ hg2
        have hb2 := (hbl.alloc hsz (.cells #[.int .i64 q] 3)).grown hgrow (by simp; omega) (fun g hg => (hown.lt g hg).1)
        clear hown hbl hgrow
        go_wp2
        go_roundw
        case rel => exact ⟨k + 1, by omega, by go_num, by rw [HCN.out], fun h => by rw [HCN.out]; exact HCO.out (by omega), by rw [← HSN.out]; exact hown2, hb2⟩
        case measure => simp [intOf]; omega
      · by_cases h3 : 0 < DG.carry DG.b4 X Y k
        · skip
          have hlt : k < max n m + 1 := by
            rcases Nat.lt_or_ge k (max n m + 1) with h | h
            · exact h
            · have := hke (by omega); omega
          have ex := hx0 (by omega)
          have ey := hy0 (by omega)
          have ec := hco (by omega) (by omega)
          generalize DG.sumD DG.b4 X Y k = q at *
          generalize hcn : DG.carry DG.b4 X Y (k + 1) = cn at *
          generalize hcv : DG.carry DG.b4 X Y k = cv at *
          generalize X k = x at *
          generalize Y k = y at *
          generalize (List.range k).map (DG.sumD DG.b4 X Y) = zs at *
          have d3 : decide (0 < cv) = true := decide_eq_true h3
          have t1 : Int.tmod (cv) 10000 = q := by rw [Int.tmod_eq_emod_of_nonneg (by omega)]; omega
          have t2 : Int.tdiv (cv) 10000 = cn := by rw [Int.tdiv_eq_ediv_of_nonneg (by omega)]; omega
          have q1 : 0 ≤ q ∧ q < 10000 := by omega
          have q2 : 0 ≤ cn ∧ cn ≤ 1 := by omega
          have u1 : IntKind.i64.wrap q = q := IntWalk.i64_in _ (by omega)
          have u2 : IntKind.i64.wrap cn = cn := IntWalk.i64_in _ (by omega)
          have HK := Lib.hid hke
          have HCN := Lib.hid hcn
          have HCO := Lib.hid (fun h : max n m ≤ k => hco (by omega) (by omega))
          clear hsd hcd hx0 hy0 hke hcn hco HEN
          clear  ex ey ec
          go_wp2_with (at_builtin; refine wpList_one elemI _ rfl _ _ rfl w.heap.size u5 k zs rfl (hown.alloc _) wr.heap.size q rfl (heap_alloc_new wr _) (by omega) (by simp; omega) (wr.heap.size + 1) (by simp) ?_)
          intro g cap W2 hown2 hgrow _ hg2
          have hb2 := (hbl.alloc hsz (.cells #[.int .i64 q] 3)).grown hgrow (by simp; omega) (fun g hg => (hown.lt g hg).1)
          clear hown hbl hgrow
          go_wp2
          go_roundw
          case rel => exact ⟨k + 1, by omega, by go_num, by rw [HCN.out], fun h => by rw [HCN.out]; exact HCO.out (by omega), by rw [← HSN.out]; exact hown2, hb2⟩
          case measure => simp [intOf]; omega
        · have hc0 : DG.carry DG.b4 X Y k = 0 := by omega
          have hval := HEN.out hc0
          rw [HXD.out, HYD.out] at hval
          rw [HD1.out k (by omega), HD2.out k (by omega)] at hval
          rw [← HXD.out, ← HYD.out] at hval
          have HV := Lib.hid hval
          rw [hc0]
          have hzl : ((List.range k).map (DG.sumD DG.b4 X Y)).length = k := by simp
          have HZL := Lib.hid hzl
          clear hval hsd hcd hx0 hy0 hco hcb hxb hyb HEN hke hc0 h3 hzl
          generalize (List.range k).map (DG.sumD DG.b4 X Y) = zs at *
          go_wp2
          go_ret
          exact ⟨_, _, rfl, Digs.own hown HDG.out, HV.out, by rw [HZL.out]; omega, hbl⟩

set_option maxRecDepth 100000 in
set_option maxHeartbeats 1600000 in
theorem rless_any {w : World} {u v : Value} {x y : Int} {N M : Nat} (hu : RMag w u x N) (hv : RMag w v y M) (hN : N ≤ 10000) (hle : y ≤ x) :
    Calls Tryz.prog 48 #[u, v] w (RetD (x - y) N w) := by
  obtain ⟨A, n, c, xs, rfl, hn, _, _, _, hA, hx, nx, hxv, hnN⟩ := hu
  obtain ⟨C, m, d, ys, rfl, hm, _, _, _, hC, hy, ny, hyv, hmM⟩ := hv
  have hmn : m ≤ n := by
    rw [← hm]
    refine DG.norm_len DG.b4_two hy ny ?_
    rw [hyv, ← hn]
    have := DG.dv_lt DG.b4_one xs hx
    omega
  have hX := fun i => hx.getD DG.b4_one i
  have hY := fun i => hy.getD DG.b4_one i
  have hd1 := DG.ds_getD DG.b4 xs
  have hd2 := DG.ds_getD DG.b4 ys
  rw [hxv] at hd1
  rw [hyv] at hd2
  have hX0 : ∀ i, n ≤ i → xs.getD i 0 = 0 := fun i hi => by simp only [List.getD]; rw [List.getElem?_eq_none (by omega)]; rfl
  have hY0 : ∀ i, m ≤ i → ys.getD i 0 = 0 := fun i hi => by simp only [List.getD]; rw [List.getElem?_eq_none (by omega)]; rfl
  have hXk : ∀ i (hi : i < xs.length), xs[i]'hi = xs.getD i 0 := fun i hi => by simp [List.getD, hi]
  have hYk : ∀ i (hi : i < ys.length), ys[i]'hi = ys.getD i 0 := fun i hi => by simp [List.getD, hi]
  rw [hn] at hd1
  rw [hm] at hd2
  have HN := Lib.hid hn
  have HM := Lib.hid hm
  have HD1 := Lib.hid hd1
  have HD2 := Lib.hid hd2
  have HXK := Lib.hid hXk
  have HYK := Lib.hid hYk
  have HX0 := Lib.hid hX0
  have HY0 := Lib.hid hY0
  have HX := Lib.hid hX
  have HY := Lib.hid hY
  clear hx hy hn hm hd1 hd2 hXk hYk hX0 hY0 nx ny hX hY
  obtain ⟨X, hXd⟩ : ∃ X : Nat → Int, X = fun i => xs.getD i 0 := ⟨_, rfl⟩
  obtain ⟨Y, hYd⟩ : ∃ Y : Nat → Int, Y = fun i => ys.getD i 0 := ⟨_, rfl⟩
  have HXD := Lib.hid hXd
  have HYD := Lib.hid hYd
  have hX : ∀ i, 0 ≤ X i ∧ X i < DG.b4 := by rw [hXd]; exact HX.out
  have hY : ∀ i, 0 ≤ Y i ∧ Y i < DG.b4 := by rw [hYd]; exact HY.out
  have HX2 := Lib.hid hX
  have HY2 := Lib.hid hY
  clear hXd hYd hX hY

  have HLE := Lib.hid hle
  clear hle
  go_enter Tryz.func48, Tryz.ntmps48
  go_wp2
  go_loopw [5, 6, 7, 8] (fun o cc i _ wr => ∃ k : Nat, k ≤ n ∧ i = .int .i64 k ∧ cc = .int .i64 (DG.borrow X Y k) ∧ Own 3 .i64 wr w.heap.size o k ((List.range k).map (DG.diffD DG.b4 X Y)) ∧ Below w.heap.size w wr) (fun _ _ i _ _ => n - (intOf i).toNat)
  case atStart => exact ⟨0, by omega, rfl, rfl, World.ownsRow_lit w #[] 0 (Nat.le_refl _) (by simp [maxLen]) rfl, (Below.refl _ _).alloc (Nat.le_refl _) _⟩
  case round =>
    obtain ⟨k, hk, rfl, rfl, hown, hbl⟩ := hrel
    have hsz := hbl.size
    have hcb := DG.borrow_bd X Y k
    have hxb := HX2.out k
    have hyb := HY2.out k
    have HSN := Lib.hid (DG.range_snoc (DG.diffD DG.b4 X Y) k)
    have hy0 : m ≤ k → Y k = 0 := fun h => by rw [HYD.out]; exact HY0.out k h
    have hng := fun h => DG.diff_neg (b := DG.b4) (x := X) (y := Y) (k := k) h HX2.out HY2.out
    have hps := fun h => DG.diff_pos (b := DG.b4) (x := X) (y := Y) (k := k) h HX2.out HY2.out
    have HDG := Lib.hid (DG.diffD_dig DG.b4_two X Y k)
    have HEN := Lib.hid (fun h => DG.diff_end DG.b4_two HX2.out HY2.out (k := k) h)
    rw [show DG.b4 = 10000 from rfl] at hxb hyb
    rw [show DG.b4 = 10000 from rfl] at hng
    by_cases h1 : k < n
    · by_cases h2 : k < m
      · skip
        by_cases h3 : X k - DG.borrow X Y k - Y k < 0
        · skip
          obtain ⟨b1, o1, rfl, hl1, hc1⟩ := (hA.below hbl).get (k := k) (by rw [HN.out]; exact h1)
          rw [HXK.out k (by rw [HN.out]; exact h1), show xs.getD k 0 = X k by rw [HXD.out]] at hc1
          obtain ⟨b2, o2, rfl, hl2, hc2⟩ := (hC.below hbl).get (k := k) (by rw [HM.out]; exact h2)
          rw [HYK.out k (by rw [HM.out]; exact h2), show ys.getD k 0 = Y k by rw [HYD.out]] at hc2
          have hq := hng h3
          rw [show (10000 : Int) = DG.b4 from rfl] at hq
          generalize DG.diffD DG.b4 X Y k = q at *
          generalize hcn : DG.borrow X Y (k + 1) = cn at *
          generalize hcv : DG.borrow X Y k = cv at *
          generalize X k = x at *
          generalize Y k = y at *
          generalize (List.range k).map (DG.diffD DG.b4 X Y) = zs at *
          rw [show DG.b4 = 10000 from rfl] at hq
          have d3 : decide (x - cv - y < 0) = true := decide_eq_true (by omega)
          have t1 : x - cv - y + 10000 = q := by omega
          have q1 : 0 ≤ q ∧ q < 10000 := by omega
          have HCN := Lib.hid hcn
          have HCE := Lib.hid hq.2
          clear hng hps hq hcn hy0 HEN h3
          go_wp2_with (at_builtin; refine wpList_one elemI _ rfl _ _ rfl w.heap.size u5 k zs rfl (hown.alloc _) wr.heap.size q rfl (heap_alloc_new wr _) (by omega) (by simp; omega) (wr.heap.size + 1) (by simp) ?_)
          intro g cap W2 hown2 hgrow _ hg2
          have hb2 := (hbl.alloc hsz (.cells #[.int .i64 q] 3)).grown hgrow (by simp; omega) (fun g hg => (hown.lt g hg).1)
          clear hown hbl hgrow
          go_wp2
          go_roundw
          case rel => exact ⟨k + 1, by omega, by go_num, by rw [HCN.out, HCE.out], by rw [← HSN.out]; exact hown2, hb2⟩
          case measure => simp [intOf]; omega
        · skip
          obtain ⟨b1, o1, rfl, hl1, hc1⟩ := (hA.below hbl).get (k := k) (by rw [HN.out]; exact h1)
          rw [HXK.out k (by rw [HN.out]; exact h1), show xs.getD k 0 = X k by rw [HXD.out]] at hc1
          obtain ⟨b2, o2, rfl, hl2, hc2⟩ := (hC.below hbl).get (k := k) (by rw [HM.out]; exact h2)
          rw [HYK.out k (by rw [HM.out]; exact h2), show ys.getD k 0 = Y k by rw [HYD.out]] at hc2
          have hq := hps h3
          skip
          generalize DG.diffD DG.b4 X Y k = q at *
          generalize hcn : DG.borrow X Y (k + 1) = cn at *
          generalize hcv : DG.borrow X Y k = cv at *
          generalize X k = x at *
          generalize Y k = y at *
          generalize (List.range k).map (DG.diffD DG.b4 X Y) = zs at *
          skip
          have d3 : decide (x - cv - y < 0) = false := decide_eq_false (by omega)
          have t1 : x - cv - y = q := by omega
          have q1 : 0 ≤ q ∧ q < 10000 := by omega
          have HCN := Lib.hid hcn
          have HCE := Lib.hid hq.2
          clear hng hps hq hcn hy0 HEN h3
          go_wp2_with (at_builtin; refine wpList_one elemI _ rfl _ _ rfl w.heap.size u5 k zs rfl (hown.alloc _) wr.heap.size q rfl (heap_alloc_new wr _) (by omega) (by simp; omega) (wr.heap.size + 1) (by simp) ?_)
          intro g cap W2 hown2 hgrow _ hg2
          have hb2 := (hbl.alloc hsz (.cells #[.int .i64 q] 3)).grown hgrow (by simp; omega) (fun g hg => (hown.lt g hg).1)
          clear hown hbl hgrow
          go_wp2
          go_roundw
          case rel => exact ⟨k + 1, by omega, by go_num, by rw [HCN.out, HCE.out], by rw [← HSN.out]; exact hown2, hb2⟩
          case measure => simp [intOf]; omega
      · skip
        by_cases h3 : X k - DG.borrow X Y k - Y k < 0
        · skip
          obtain ⟨b1, o1, rfl, hl1, hc1⟩ := (hA.below hbl).get (k := k) (by rw [HN.out]; exact h1)
          rw [HXK.out k (by rw [HN.out]; exact h1), show xs.getD k 0 = X k by rw [HXD.out]] at hc1
          have ey := hy0 (by omega)
          have hq := hng h3
          rw [show (10000 : Int) = DG.b4 from rfl] at hq
          generalize DG.diffD DG.b4 X Y k = q at *
          generalize hcn : DG.borrow X Y (k + 1) = cn at *
          generalize hcv : DG.borrow X Y k = cv at *
          generalize X k = x at *
          generalize Y k = y at *
          generalize (List.range k).map (DG.diffD DG.b4 X Y) = zs at *
          rw [show DG.b4 = 10000 from rfl] at hq
          have d3 : decide (x - cv < 0) = true := decide_eq_true (by omega)
          have t1 : x - cv + 10000 = q := by omega
          have q1 : 0 ≤ q ∧ q < 10000 := by omega
          have HCN := Lib.hid hcn
          have HCE := Lib.hid hq.2
          clear hng hps hq hcn hy0 HEN h3
          clear ey
          go_wp2_with (at_builtin; refine wpList_one elemI _ rfl _ _ rfl w.heap.size u5 k zs rfl (hown.alloc _) wr.heap.size q rfl (heap_alloc_new wr _) (by omega) (by simp; omega) (wr.heap.size + 1) (by simp) ?_)
          intro g cap W2 hown2 hgrow _ hg2
          have hb2 := (hbl.alloc hsz (.cells #[.int .i64 q] 3)).grown hgrow (by simp; omega) (fun g hg => (hown.lt g hg).1)
          clear hown hbl hgrow
          go_wp2
          go_roundw
          case rel => exact ⟨k + 1, by omega, by go_num, by rw [HCN.out, HCE.out], by rw [← HSN.out]; exact hown2, hb2⟩
          case measure => simp [intOf]; omega
        · skip
          obtain ⟨b1, o1, rfl, hl1, hc1⟩ := (hA.below hbl).get (k := k) (by rw [HN.out]; exact h1)
          rw [HXK.out k (by rw [HN.out]; exact h1), show xs.getD k 0 = X k by rw [HXD.out]] at hc1
          have ey := hy0 (by omega)
          have hq := hps h3
          skip
          generalize DG.diffD DG.b4 X Y k = q at *
          generalize hcn : DG.borrow X Y (k + 1) = cn at *
          generalize hcv : DG.borrow X Y k = cv at *
          generalize X k = x at *
          generalize Y k = y at *
          generalize (List.range k).map (DG.diffD DG.b4 X Y) = zs at *
          skip
          have d3 : decide (x - cv < 0) = false := decide_eq_false (by omega)
          have t1 : x - cv = q := by omega
          have q1 : 0 ≤ q ∧ q < 10000 := by omega
          have HCN := Lib.hid hcn
          have HCE := Lib.hid hq.2
          clear hng hps hq hcn hy0 HEN h3
          clear ey
          go_wp2_with (at_builtin; refine wpList_one elemI _ rfl _ _ rfl w.heap.size u5 k zs rfl (hown.alloc _) wr.heap.size q rfl (heap_alloc_new wr _) (by omega) (by simp; omega) (wr.heap.size + 1) (by simp) ?_)
          intro g cap W2 hown2 hgrow _ hg2
          have hb2 := (hbl.alloc hsz (.cells #[.int .i64 q] 3)).grown hgrow (by simp; omega) (fun g hg => (hown.lt g hg).1)
          clear hown hbl hgrow
          go_wp2
          go_roundw
          case rel => exact ⟨k + 1, by omega, by go_num, by rw [HCN.out, HCE.out], by rw [← HSN.out]; exact hown2, hb2⟩
          case measure => simp [intOf]; omega
    · obtain rfl : n = k := by omega
      have hval := HEN.out
      rw [HXD.out, HYD.out] at hval
      rw [HD1.out n (by omega), HD2.out n (by omega)] at hval
      rw [← HXD.out, ← HYD.out] at hval
      have HV := Lib.hid (hval HLE.out)
      have hzl : ((List.range n).map (DG.diffD DG.b4 X Y)).length = n := by simp
      have HZL := Lib.hid hzl
      clear hval hy0 hcb hxb hyb HEN hng hps hzl
      generalize (List.range n).map (DG.diffD DG.b4 X Y) = zs at *
      go_wp2
      go_ret
      exact ⟨_, _, rfl, Digs.own hown HDG.out, HV.out, by rw [HZL.out]; omega, hbl⟩
end Go.Proofs.YtklngjjokbhfpaaGreatDoor

namespace Go.Proofs.YtklngjjokbhfpaaGreatDoor
open Go.RowKit

set_option maxRecDepth 100000 in
set_option maxHeartbeats 1600000 in
theorem rint_pos (V : Nat) (w : World) (hV : V ≤ 9223372036854775807) :
    Calls Tryz.prog 20 #[.int .i64 ((V : Nat) : Int)] w (RetR ((V : Nat) : Int) 5 w) := by
  have d0 : decide (((V : Nat) : Int) < 0) = false := decide_eq_false (by omega)
  have HR := Lib.hid (DG.IRow.start V)
  go_enter Tryz.func20, Tryz.ntmps20
  go_wp2
  go_loopw [0, 4] (fun i _ wr => ∃ (u k : Nat) (out : List Int) (v0 : Value), k = out.length ∧ i = .int .i64 ((u : Nat) : Int) ∧ u ≤ V ∧ DG.IRow V out u ∧ Two wr w.heap.size (.bool false) (.slice none 0 0) 43 ∧ Two wr (w.heap.size + 1) (.bool false) v0 43 ∧ Own 3 .i64 wr (w.heap.size + 2) v0 k out ∧ Below w.heap.size w wr) (fun i _ _ => (intOf i).natAbs)
  case atStart =>
    refine ⟨V, 0, [], .slice none 0 0, rfl, rfl, Nat.le_refl _, HR.out, ?_, ?_, Own.nil _ _, ?_⟩
    · exact (Two.newAt w _ _ _ _ rfl).alloc _
    · exact Two.newAt _ _ _ _ _ (by simp)
    · exact ((Below.refl _ _).alloc (Nat.le_refl _) _).alloc (by simp) _
  case round =>
    obtain ⟨u, k, out, v0, hk, rfl, huV, hr, hB0, hB1, hown, hbl⟩ := hrel
    have hsz := hB1.lt
    have HK := Lib.hid hk
    have j1 := hB1.cell1
    by_cases h0 : 0 < u
    · have e0 : (((u : Nat) : Int) != 0) = true := by simp; omega
      have hkl : k ≤ 4 := by rw [hk]; exact hr.len (by omega) h0
      have HS := Lib.hid (hr.step h0)
      have ht1 : Int.tmod ((u : Nat) : Int) 10000 = ((u % 10000 : Nat) : Int) := by rw [Int.tmod_eq_emod_of_nonneg (by omega)]; rfl
      have ht2 : Int.tdiv ((u : Nat) : Int) 10000 = ((u / 10000 : Nat) : Int) := by rw [Int.tdiv_eq_ediv_of_nonneg (by omega)]; rfl
      have hq : u % 10000 < 10000 := Nat.mod_lt _ (by omega)
      have hp : u / 10000 < u := Nat.div_lt_self h0 (by omega)
      clear hr hk d0
      generalize u % 10000 = q at *
      generalize u / 10000 = p at *
      have t1 : Int.tmod (u : Int) 10000 = (q : Int) := ht1
      have d1 : decide ((q : Int) < 0) = false := decide_eq_false (by omega)
      have w2 : IntKind.i64.wrap (q : Int) = q := IntWalk.i64_in _ (by omega)
      have t2 : Int.tdiv ((u : Nat) : Int) 10000 = ((p : Nat) : Int) := ht2
      have w3 : IntKind.i64.wrap ((p : Nat) : Int) = ((p : Nat) : Int) := IntWalk.i64_in _ (by omega)
      clear ht1 ht2
      go_wp2_with (at_builtin; refine wpList_one elemI _ rfl _ _ rfl (w.heap.size + 2) v0 k out rfl (hown.alloc _) wr.heap.size (q : Int) rfl (heap_alloc_new wr _) (by omega) (by simp; omega) (wr.heap.size + 1) (by simp) ?_)
      intro g cap W2 hown2 hgrow _ hg2
      have hb2 : Below (w.heap.size + 2) wr W2 := ((Below.refl (w.heap.size + 2) wr).alloc (by omega) (.cells #[.int .i64 (q : Int)] 3)).grown hgrow (by simp; omega) (fun g hg => (hown.lt g hg).1)
      have hC0 := (hB0.below hb2 (by omega)).setOther ⟨w.heap.size + 1, 1, none⟩ (.slice (some ⟨g, 0, none⟩) (k + 1) cap) (by simp)
      have hC1 := hB1.below hb2 (by omega)
      have c1 := hC1.cell1
      have f1 := hC1.free 1
      have hC2 := hC1.set1 (.slice (some ⟨g, 0, none⟩) (k + 1) cap)
      have hown3 := hown2.setOther ⟨w.heap.size + 1, 1, none⟩ (.slice (some ⟨g, 0, none⟩) (k + 1) cap) (by simp)
      have hbl3 := (hbl.trans (hb2.mono (by omega))).setCell (p := ⟨w.heap.size + 1, 1, none⟩) (by simp) (.slice (some ⟨g, 0, none⟩) (k + 1) cap)
      clear hown hbl hgrow hB0 hB1 hC1 hb2 hown2 j1
      go_wp2
      go_roundw
      case rel => exact ⟨p, k + 1, out ++ [(q : Int)], _, by rw [HK.out]; simp, by go_num, by omega, HS.out, hC0, hC2, hown3, hbl3⟩
      case measure => simp [intOf]; omega

    · obtain rfl : u = 0 := by omega
      have e0 : (((0 : Nat) : Int) != 0) = false := by simp
      obtain ⟨A, c, rfl, -⟩ := hown.sli.lieA hk.symm
      have hdn := hr.done
      have HD := Lib.hid hdn
      have HNO := Lib.hid (hr.nrm rfl)
      have HDG := Lib.hid hr.dig
      have hk5 : k ≤ 5 := by rw [hk]; exact hr.len0 (by omega)
      have HOW := Lib.hid hown
      have HBL := Lib.hid hbl
      have j0 := hB1.cell0
      have q0 := hB0.cell0
      have q1 := hB0.cell1
      have f0 := hB0.free 0
      have f1 := hB0.free 1
      clear hr hk hown hbl hB0 hB1 hdn
      go_wp2
      refine bodyPost_ret (v := .agg #[.bool false, .slice A k c]) (by simp [results, Tryz.results20, go_sem, q0, q1]) rfl ⟨_, rfl, ⟨false, _, _, rfl, RMag.own ((HOW.out.setOther _ _ ?a1).setOther _ _ ?a2) HDG.out HNO.out hk5, ?e2, ?e3⟩, ?e4⟩
      case a1 => simp
      case a2 => simp
      case e2 => rw [HD.out]; simp
      case e3 => intro h; cases h
      case e4 => exact (HBL.out.setCell (by simp) _).setCell (by simp) _

set_option maxRecDepth 100000 in
set_option maxHeartbeats 1600000 in
theorem rint_neg (V : Nat) (w : World) (hV : V ≤ 9223372036854775808) (h0 : 0 < V) :
    Calls Tryz.prog 20 #[.int .i64 (-((V : Nat) : Int))] w (RetR (-((V : Nat) : Int)) 5 w) := by
  have d0 : decide ((-((V : Nat) : Int)) < 0) = true := decide_eq_true (by omega)
  have HR := Lib.hid (DG.IRow.start V)
  go_enter Tryz.func20, Tryz.ntmps20
  go_wp2
  go_loopw [0, 4] (fun i _ wr => ∃ (u k : Nat) (out : List Int) (v0 : Value), k = out.length ∧ i = .int .i64 (-((u : Nat) : Int)) ∧ u ≤ V ∧ DG.IRow V out u ∧ Two wr w.heap.size (.bool false) (.slice none 0 0) 43 ∧ Two wr (w.heap.size + 1) (.bool true) v0 43 ∧ Own 3 .i64 wr (w.heap.size + 2) v0 k out ∧ Below w.heap.size w wr) (fun i _ _ => (intOf i).natAbs)
  case atStart =>
    refine ⟨V, 0, [], .slice none 0 0, rfl, rfl, Nat.le_refl _, HR.out, ?_, ?_, Own.nil _ _, ?_⟩
    · exact (Two.newAt w _ _ _ _ rfl).alloc _
    · exact Two.newAt _ _ _ _ _ (by simp)
    · exact ((Below.refl _ _).alloc (Nat.le_refl _) _).alloc (by simp) _
  case round =>
    obtain ⟨u, k, out, v0, hk, rfl, huV, hr, hB0, hB1, hown, hbl⟩ := hrel
    have hsz := hB1.lt
    have HK := Lib.hid hk
    have j1 := hB1.cell1
    by_cases h0 : 0 < u
    · have e0 : ((-((u : Nat) : Int)) != 0) = true := by simp; omega
      have hkl : k ≤ 4 := by rw [hk]; exact hr.len (by omega) h0
      have HS := Lib.hid (hr.step h0)
      have ht1 : Int.tmod (-((u : Nat) : Int)) 10000 = (-((u % 10000 : Nat) : Int)) := by rw [Int.neg_tmod, Int.tmod_eq_emod_of_nonneg (by omega)]; rfl
      have ht2 : Int.tdiv (-((u : Nat) : Int)) 10000 = (-((u / 10000 : Nat) : Int)) := by rw [Int.neg_tdiv, Int.tdiv_eq_ediv_of_nonneg (by omega)]; rfl
      have hq : u % 10000 < 10000 := Nat.mod_lt _ (by omega)
      have hp : u / 10000 < u := Nat.div_lt_self h0 (by omega)
      clear hr hk d0
      generalize u % 10000 = q at *
      generalize u / 10000 = p at *
      by_cases hq0 : q = 0
      · skip
        have t1 : Int.tmod (-(u : Int)) 10000 = 0 := by rw [ht1, hq0]; rfl
        have t2 : Int.tdiv (-((u : Nat) : Int)) 10000 = (-((p : Nat) : Int)) := ht2
        have w3 : IntKind.i64.wrap (-((p : Nat) : Int)) = (-((p : Nat) : Int)) := IntWalk.i64_in _ (by omega)
        subst hq0
        clear ht1 ht2
        go_wp2_with (at_builtin; refine wpList_one elemI _ rfl _ _ rfl (w.heap.size + 2) v0 k out rfl (hown.alloc _) wr.heap.size 0 rfl (heap_alloc_new wr _) (by omega) (by simp; omega) (wr.heap.size + 1) (by simp) ?_)
        intro g cap W2 hown2 hgrow _ hg2
        have hb2 : Below (w.heap.size + 2) wr W2 := ((Below.refl (w.heap.size + 2) wr).alloc (by omega) (.cells #[.int .i64 0] 3)).grown hgrow (by simp; omega) (fun g hg => (hown.lt g hg).1)
        have hC0 := (hB0.below hb2 (by omega)).setOther ⟨w.heap.size + 1, 1, none⟩ (.slice (some ⟨g, 0, none⟩) (k + 1) cap) (by simp)
        have hC1 := hB1.below hb2 (by omega)
        have c1 := hC1.cell1
        have f1 := hC1.free 1
        have hC2 := hC1.set1 (.slice (some ⟨g, 0, none⟩) (k + 1) cap)
        have hown3 := hown2.setOther ⟨w.heap.size + 1, 1, none⟩ (.slice (some ⟨g, 0, none⟩) (k + 1) cap) (by simp)
        have hbl3 := (hbl.trans (hb2.mono (by omega))).setCell (p := ⟨w.heap.size + 1, 1, none⟩) (by simp) (.slice (some ⟨g, 0, none⟩) (k + 1) cap)
        clear hown hbl hgrow hB0 hB1 hC1 hb2 hown2 j1
        go_wp2
        go_roundw
        case rel => exact ⟨p, k + 1, out ++ [0], _, by rw [HK.out]; simp, by go_num, by omega, HS.out, hC0, hC2, hown3, hbl3⟩
        case measure => simp [intOf]; omega
      · skip
        have t1 : Int.tmod (-(u : Int)) 10000 = -(q : Int) := ht1
        have d1 : decide (-(q : Int) < 0) = true := decide_eq_true (by omega)
        have w1 : IntKind.i64.wrap (-(q : Int)) = -(q : Int) := IntWalk.i64_in _ (by omega)
        have w2 : IntKind.i64.wrap (q : Int) = q := IntWalk.i64_in _ (by omega)
        have t2 : Int.tdiv (-((u : Nat) : Int)) 10000 = (-((p : Nat) : Int)) := ht2
        have w3 : IntKind.i64.wrap (-((p : Nat) : Int)) = (-((p : Nat) : Int)) := IntWalk.i64_in _ (by omega)
        clear ht1 ht2
        go_wp2_with (at_builtin; refine wpList_one elemI _ rfl _ _ rfl (w.heap.size + 2) v0 k out rfl (hown.alloc _) wr.heap.size (q : Int) rfl (heap_alloc_new wr _) (by omega) (by simp; omega) (wr.heap.size + 1) (by simp) ?_)
        intro g cap W2 hown2 hgrow _ hg2
        have hb2 : Below (w.heap.size + 2) wr W2 := ((Below.refl (w.heap.size + 2) wr).alloc (by omega) (.cells #[.int .i64 (q : Int)] 3)).grown hgrow (by simp; omega) (fun g hg => (hown.lt g hg).1)
        have hC0 := (hB0.below hb2 (by omega)).setOther ⟨w.heap.size + 1, 1, none⟩ (.slice (some ⟨g, 0, none⟩) (k + 1) cap) (by simp)
        have hC1 := hB1.below hb2 (by omega)
        have c1 := hC1.cell1
        have f1 := hC1.free 1
        have hC2 := hC1.set1 (.slice (some ⟨g, 0, none⟩) (k + 1) cap)
        have hown3 := hown2.setOther ⟨w.heap.size + 1, 1, none⟩ (.slice (some ⟨g, 0, none⟩) (k + 1) cap) (by simp)
        have hbl3 := (hbl.trans (hb2.mono (by omega))).setCell (p := ⟨w.heap.size + 1, 1, none⟩) (by simp) (.slice (some ⟨g, 0, none⟩) (k + 1) cap)
        clear hown hbl hgrow hB0 hB1 hC1 hb2 hown2 j1
        go_wp2
        go_roundw
        case rel => exact ⟨p, k + 1, out ++ [(q : Int)], _, by rw [HK.out]; simp, by go_num, by omega, HS.out, hC0, hC2, hown3, hbl3⟩
        case measure => simp [intOf]; omega

    · obtain rfl : u = 0 := by omega
      have e0 : ((-((0 : Nat) : Int)) != 0) = false := by simp
      obtain ⟨A, c, rfl, -⟩ := hown.sli.lieA hk.symm
      have hdn := hr.done
      have HD := Lib.hid hdn
      have HNO := Lib.hid (hr.nrm rfl)
      have HDG := Lib.hid hr.dig
      have hk5 : k ≤ 5 := by rw [hk]; exact hr.len0 (by omega)
      have HOW := Lib.hid hown
      have HBL := Lib.hid hbl
      have j0 := hB1.cell0
      have q0 := hB0.cell0
      have q1 := hB0.cell1
      have f0 := hB0.free 0
      have f1 := hB0.free 1
      clear hr hk hown hbl hB0 hB1 hdn
      go_wp2
      refine bodyPost_ret (v := .agg #[.bool true, .slice A k c]) (by simp [results, Tryz.results20, go_sem, q0, q1]) rfl ⟨_, rfl, ⟨true, _, _, rfl, RMag.own ((HOW.out.setOther _ _ ?a1).setOther _ _ ?a2) HDG.out HNO.out hk5, ?e2, ?e3⟩, ?e4⟩
      case a1 => simp
      case a2 => simp
      case e2 => rw [HD.out]; simp
      case e3 => intro _; rw [HD.out]; omega
      case e4 => exact (HBL.out.setCell (by simp) _).setCell (by simp) _

theorem rint_any (z : Int) (w : World) (hz : I64 z) : Calls Tryz.prog 20 #[.int .i64 z] w (RetR z 5 w) := by
  obtain ⟨h1, h2⟩ := hz
  by_cases h : z < 0
  · have := rint_neg z.natAbs w (by omega) (by omega)
    rwa [show (-((z.natAbs : Nat) : Int)) = z by omega] at this
  · have := rint_pos z.natAbs w (by omega)
    rwa [show ((z.natAbs : Nat) : Int) = z by omega] at this
end Go.Proofs.YtklngjjokbhfpaaGreatDoor
