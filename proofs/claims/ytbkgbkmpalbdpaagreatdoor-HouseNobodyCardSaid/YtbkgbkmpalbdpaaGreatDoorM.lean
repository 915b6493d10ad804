/- wide's Mul (printed by genm.py). -/
import Derived.Test.YtbkgbkmpalbdpaaGreatDoorPkK
namespace Go.Proofs.YtbkgbkmpalbdpaaGreatDoor.G
open Go.RowKit

theorem _root_.Go.Proofs.YtbkgbkmpalbdpaaGreatDoor.Own.cellD {e : TypeId} {κ : IntKind} {w : World} {base n g cap : Nat} {xs : List Int} (h : Own e κ w base (.slice (some ⟨g, 0, none⟩) n cap) n xs) {k : Nat} (hk : k < xs.length) : w.cell? ⟨g, k, none⟩ = some (.int κ (xs.getD k 0)) := by
  rw [h.get hk]
  simp [List.getD, hk]

set_option maxRecDepth 100000 in
set_option maxHeartbeats 3200000 in
theorem mul_false_false (A : Option Addr) (n c : Nat) (B : Option Addr) (m d : Nat) (xs ys : List Int) (w : World) (hA : Ints .u32 w A xs) (hC : Ints .u32 w B ys) (hn : xs.length = n) (hm : ys.length = m) (hb1 : n ≤ 400) (hb2 : m ≤ 400) (hx : DG.Dig b32 xs) (hy : DG.Dig b32 ys) :
    Calls Tryz.prog 332 #[.agg #[.bool false, .slice A n c], .agg #[.bool false, .slice B m d]] w (RetZ ((DG.dv b32 xs * DG.dv b32 ys)) (n + m) w) := by
  have HN := Lib.hid hn
  have HM := Lib.hid hm
  have hX := fun i => hx.getD b32_one i
  have hY := fun i => hy.getD b32_one i
  have hv1 := DG.ds_getD b32 xs n (by omega)
  have hv2 := DG.ds_getD b32 ys m (by omega)
  obtain ⟨X, hXd⟩ : ∃ X : Nat → Int, X = fun i => xs.getD i 0 := ⟨_, rfl⟩
  obtain ⟨Y, hYd⟩ : ∃ Y : Nat → Int, Y = fun i => ys.getD i 0 := ⟨_, rfl⟩
  rw [← hXd] at hv1
  rw [← hYd] at hv2
  have hX' : ∀ i, 0 ≤ X i ∧ X i < b32 := fun i => by rw [hXd]; exact hX i
  have hY' : ∀ i, 0 ≤ Y i ∧ Y i < b32 := fun i => by rw [hYd]; exact hY i
  have HV1 := Lib.hid hv1
  have HV2 := Lib.hid hv2
  have HXD := Lib.hid hXd
  have HYD := Lib.hid hYd
  have HX2 := Lib.hid hX'
  have HY2 := Lib.hid hY'
  have c101 := fun (W : World) (zs : List Int) (h : Own 294 .u32 W (w.heap.size + 1 + 1 + 1) (.slice (some ⟨w.heap.size + 1 + 1 + 1, 0, none⟩) (n + m) (n + m)) (n + m) zs) => trim_any (some ⟨w.heap.size + 1 + 1 + 1, 0, none⟩) (n + m) (n + m) zs W h.ints h.len (by omega) (Nat.le_refl _) (by unfold maxLen; omega)
  have c79 := fun (v : Value) (W : World) (h : Mag W v (DG.dv b32 xs * DG.dv b32 ys) (n + m)) => made_any false v _ (n + m) W h (by omega)
  clear hx hy hX hY hXd hYd hX' hY' hn hm hv1 hv2
  have hB : Below w.heap.size w (((w.alloc (.cells #[.bool false, .slice A n c] 348)).alloc (.cells #[.bool false, .slice B m d] 348)).alloc (.cells #[.bool false, .slice none 0 0] 348)) := (((Below.refl _ _).alloc (Nat.le_refl _) _).alloc (by simp) _).alloc (by simp; omega) _
  obtain ⟨W3, hW3⟩ : ∃ W3, W3 = ((w.alloc (.cells #[.bool false, .slice A n c] 348)).alloc (.cells #[.bool false, .slice B m d] 348)).alloc (.cells #[.bool false, .slice none 0 0] 348) := ⟨_, rfl⟩
  have hs3 : W3.heap.size = w.heap.size + 1 + 1 + 1 := by rw [hW3]; simp
  have HE : ∀ W, Below (w.heap.size + 1 + 1 + 1) W3 W → W.heap[w.heap.size + 1 + 1]? = some (.cells #[.bool false, .slice none 0 0] 348 (0, 0)) := fun W hb => res_zcell rfl rfl (hW3 ▸ hb)
  rw [← hW3] at hB
  have HB3 := Lib.hid hB
  clear hB
  have HW := Lib.hid hW3
  have hbW := Below.refl (w.heap.size + 1 + 1 + 1) W3
  go_enter Tryz.func332, Tryz.ntmps332
  go_wp2_with (at_make; refine wpList_makeK elemU _ rfl _ _ rfl (w.heap.size + 1 + 1 + 1) _ _ (n + m) rfl rfl (by omega) (by omega) (by omega) (by simp) ?_)
  rw [← hW3]
  clear hW3
  intro w1 hown1 hgrow1
  have hb1 := hbW.grown hgrow1 (Nat.le_of_eq hs3.symm) (by intro k hk; cases hk)
  clear hgrow1 hbW
  have hr1 := DG.MRows.start b32_one X (DG.dv b32 ys) (n + m) m
  have k0 : W3.cell? ⟨w.heap.size, 1, none⟩ = some (.slice A n c) := by rw [HW.out]; simp [go_sem]
  have k1 : W3.cell? ⟨w.heap.size + 1, 1, none⟩ = some (.slice B m d) := by rw [HW.out]; simp [go_sem]
  have q0 := (hb1.cell (p := ⟨w.heap.size, 1, none⟩) (by show w.heap.size < w.heap.size + 1 + 1 + 1; omega)).trans k0
  go_wp2
  clear q0
  go_loopw [23] (fun i wr => ∃ (k : Nat) (zs : List Int), k ≤ n ∧ i = .int .i64 k ∧ Own 294 .u32 wr (w.heap.size + 1 + 1 + 1) (.slice (some ⟨w.heap.size + 1 + 1 + 1, 0, none⟩) (n + m) (n + m)) (n + m) zs ∧ DG.MRows b32 X (DG.dv b32 ys) (n + m) m k zs ∧ Below (w.heap.size + 1 + 1 + 1) W3 wr) (fun i _ => n - (intOf i).toNat)
  case atStart => exact ⟨0, _, Nat.zero_le _, rfl, hown1, hr1, hb1⟩
  case round =>
    clear hown1 hb1 hr1
    obtain ⟨k, zs, hk, rfl, hown, hr, hbl⟩ := hrel
    by_cases hlt : k < n
    · obtain ⟨b1, o1, rfl, hl1, hc1⟩ := (hA.below (HB3.out.trans (hbl.mono (by omega)))).get (k := k) (by rw [HN.out]; exact hlt)
      have hxk : xs[k]'(by rw [HN.out]; exact hlt) = X k := by rw [HXD.out]; simp [List.getD, show k < xs.length by rw [HN.out]; exact hlt]
      rw [hxk] at hc1
      have hxb := HX2.out k
      have q1 := (hbl.cell (p := ⟨w.heap.size + 1, 1, none⟩) (by show w.heap.size + 1 < w.heap.size + 1 + 1 + 1; omega)).trans k1
      have hrow := hr.row b32_two (X k) Y
      have HR0 := Lib.hid hr
      clear hr hxk
      generalize hxv : X k = x at *
      go_wp2
      clear hc1 q1
      go_loopw [8, 31] (fun cc j wr => ∃ (l : Nat) (zs' : List Int) (cv : Int), l ≤ m ∧ j = .int .i64 l ∧ cc = .int .u64 cv ∧ Own 294 .u32 wr (w.heap.size + 1 + 1 + 1) (.slice (some ⟨w.heap.size + 1 + 1 + 1, 0, none⟩) (n + m) (n + m)) (n + m) zs' ∧ DG.MRow b32 (DG.dv b32 zs) x Y (n + m) k m l zs' cv ∧ Below (w.heap.size + 1 + 1 + 1) W3 wr) (fun _ j _ => m - (intOf j).toNat)
      case atStart => exact ⟨0, zs, 0, Nat.zero_le _, rfl, rfl, hown, hrow, hbl⟩
      case round =>
        clear hown hrow hbl
        obtain ⟨l, zs', cv, hl, rfl, rfl, hown, hrow, hbl⟩ := hrel
        by_cases hlm : l < m
        · obtain ⟨b2, o2, rfl, hl2, hc2⟩ := (hC.below (HB3.out.trans (hbl.mono (by omega)))).get (k := l) (by rw [HM.out]; exact hlm)
          have hyl : ys[l]'(by rw [HM.out]; exact hlm) = Y l := by rw [HYD.out]; simp [List.getD, show l < ys.length by rw [HM.out]; exact hlm]
          rw [hyl] at hc2
          have hyb := HY2.out l
          have hlen := hrow.len
          have hcv := hrow.car
          have hzb := hrow.dig.getD b32_one (k + l)
          have hco : wr.cell? ⟨w.heap.size + 1 + 1 + 1, k + l, none⟩ = some (.int .u32 (zs'.getD (k + l) 0)) := hown.cellD (by omega)
          have ht := DG.mul_t b32_two hxb hyb hzb hcv
          have hstep := hrow.step b32_two (by omega) hlm hxb hyb
          have hfz := hown.frozen (k + l)
          have hown2 := hown.set (k + l) ((x * Y l + zs'.getD (k + l) 0 + cv) % b32)
          have hbl2 := hbl.setCell (p := ⟨w.heap.size + 1 + 1 + 1, k + l, none⟩) (Nat.le_refl _) (.int .u32 ((x * Y l + zs'.getD (k + l) 0 + cv) % b32))
          rw [show b32 = 4294967296 from rfl] at hown2 hbl2 hyb hcv hzb ht
          rw [show b32 = 4294967296 from rfl] at hxb
          have HST := Lib.hid hstep
          have HOW := Lib.hid hown2
          have HBL := Lib.hid hbl2
          clear hstep hown2 hbl2 hrow hown hyl
          have j1 : ((k : Int) + (l : Int)).toNat = k + l := by omega
          generalize zs'.getD (k + l) 0 = z at *
          generalize Y l = y at *
          have w1 : IntKind.u64.wrap (x * y) = x * y := u64_in _ (by omega)
          have w2 : IntKind.u64.wrap (x * y + z) = x * y + z := u64_in _ (by omega)
          have w3 : IntKind.u64.wrap (x * y + z + cv) = x * y + z + cv := u64_in _ (by omega)
          have W1 := Lib.hid w1
          have W2 := Lib.hid w2
          have W3' := Lib.hid w3
          clear hlen HR0 ht w1 w2 w3
          go_wp2
          rw [W1.out, W2.out, W3'.out]
          go_roundw
          case rel => exact ⟨l + 1, _, _, by omega, by go_num, rfl, HOW.out, HST.out, HBL.out⟩
          case measure => simp [intOf]; omega
        · obtain rfl : l = m := by omega
          have hlen := hrow.len
          have hcv := hrow.car
          have hco : wr.cell? ⟨w.heap.size + 1 + 1 + 1, k + l, none⟩ = some (.int .u32 (zs'.getD (k + l) 0)) := hown.cellD (by omega)
          have hfz := hown.frozen (k + l)
          have hdone := DG.MRow.done HR0.out (hxv ▸ hrow) (by omega) HV2.out
          have hown2 := hown.set (k + l) cv
          have hbl2 := hbl.setCell (p := ⟨w.heap.size + 1 + 1 + 1, k + l, none⟩) (Nat.le_refl _) (.int .u32 cv)
          have q1 := (hbl.cell (p := ⟨w.heap.size + 1, 1, none⟩) (by show w.heap.size + 1 < w.heap.size + 1 + 1 + 1; omega)).trans k1
          rw [show b32 = 4294967296 from rfl] at hcv
          have HST := Lib.hid hdone
          have HOW := Lib.hid hown2
          have HBL := Lib.hid hbl2
          have j1 : ((k : Int) + (l : Int)).toNat = k + l := by omega
          have m1 : cv % 4294967296 = cv := by omega
          generalize zs'.getD (k + l) 0 = z at *
          clear hdone hown2 hbl2 hrow hown HR0 hxb hlen
          go_wp2
          go_roundw
          case rel => exact ⟨k + 1, _, by omega, by go_num, HOW.out, HST.out, HBL.out⟩
          case measure => simp [intOf]; omega
    · obtain rfl : n = k := by omega
      have hval := hr.val
      rw [HV1.out] at hval
      have hmag := Mag.trimmed hown hr.dig (Nat.le_refl _)
      rw [hval] at hmag
      have c : Calls Tryz.prog 400 #[.slice (some ⟨w.heap.size + 1 + 1 + 1, 0, none⟩) (n + m) (n + m)] wr.drew (RetMag (DG.dv b32 xs * DG.dv b32 ys) (n + m) wr.drew) := (c101 wr.drew zs hown.drew).mono fun e w' h => ⟨_, h.1, by rw [h.2]; exact hmag.drewN 1, by rw [h.2]; exact Below.refl _ _⟩
      clear c101
      have hbW := hbl
      clear hval hmag hr hown hbl k0 k1
      go_wp2
      have k0 : W3.cell? ⟨w.heap.size, 0, none⟩ = some (.bool false) := by rw [HW.out]; simp [go_sem]
      have j0 := (hbW.cell (p := ⟨w.heap.size, 0, none⟩) (by show w.heap.size < w.heap.size + 1 + 1 + 1; omega)).trans k0
      have k1 : W3.cell? ⟨w.heap.size + 1, 0, none⟩ = some (.bool false) := by rw [HW.out]; simp [go_sem]
      have j1 := (hbW.cell (p := ⟨w.heap.size + 1, 0, none⟩) (by show w.heap.size + 1 < w.heap.size + 1 + 1 + 1; omega)).trans k1
      refine Lex.wp_region_lex (fun w' => w'.cell? ⟨w.heap.size, 0, none⟩ = some (.bool false) ∧ w'.cell? ⟨w.heap.size + 1, 0, none⟩ = some (.bool false)) (fun j => j != 8)
        [(0, true), (1, true), (2, true), (3, true), (4, true), (5, true), (6, false), (7, false), (8, false)]
        (by kernel_rfl) (by kernel_rfl) (by kernel_rfl) (by kernel_rfl) ⟨j0, j1⟩ ?_
      iterate 6 (refine Lex.lex_take (v := ?_) rfl rfl (by rfl) (fun _ hS => ?_) ?_; rotate_left 1; (focus (go_split_ands; go_simp; with_reducible rfl)); simp only [List.setIfInBounds_toArray, List.set_cons_zero, List.set_cons_succ])
      refine Lex.lex_do rfl ?_
      have hb0 : Below (w.heap.size + 1 + 1 + 1) W3 wr.drew := hbW.drew
      generalize wr.drew = V0 at *
      clear hbW j0 j1
      go_wp2_with fail
      refine (c).mono ?_
      rintro e V1 ⟨v1, rfl, hm1, hn1⟩
      have hb1 : Below (w.heap.size + 1 + 1 + 1) W3 V1 := hb0.trans (hn1.mono (by have := hb0.size; omega))
      have j0 := (hb1.cell (p := ⟨w.heap.size, 0, none⟩) (by show w.heap.size < w.heap.size + 1 + 1 + 1; omega)).trans k0
      have j1 := (hb1.cell (p := ⟨w.heap.size + 1, 0, none⟩) (by show w.heap.size + 1 < w.heap.size + 1 + 1 + 1; omega)).trans k1
      clear hb0 hn1
      go_wp2_with fail
      refine Lex.lexQ_normal (fun _ => ⟨j0, j1⟩) ?_
      refine Lex.lex_do rfl ?_
      clear j0 j1
      clear c
      replace c79 := c79 _ _ hm1
      go_wp2_with fail
      refine (c79).mono ?_
      rintro e V2 ⟨v2, rfl, hm2, hn2⟩
      have hb2 : Below (w.heap.size + 1 + 1 + 1) W3 V2 := hb1.trans (hn2.mono (by have := hb1.size; omega))
      have j0 := (hb2.cell (p := ⟨w.heap.size, 0, none⟩) (by show w.heap.size < w.heap.size + 1 + 1 + 1; omega)).trans k0
      have j1 := (hb2.cell (p := ⟨w.heap.size + 1, 0, none⟩) (by show w.heap.size + 1 < w.heap.size + 1 + 1 + 1; omega)).trans k1
      clear hb1 hn2
      go_wp2_with fail
      refine Lex.lexQ_normal (fun _ => ⟨j0, j1⟩) ?_
      refine Lex.lex_do rfl ?_
      clear j0 j1
      obtain ⟨neg1, A1, n1, c1, m1, rfl, hmm, hzz, hpos1, _, _⟩ := hm2.open'
      have hR := HE _ hb2
      have HST := Lib.hid (hm2.stored (u0 := .bool neg1) (u1 := .slice A1 n1 c1) hR)
      have q0 : V2.cell? ⟨w.heap.size + 1 + 1, 0, none⟩ = some (.bool false) := by simp [World.cell?, hR]
      have f0 : V2.frozen? ⟨w.heap.size + 1 + 1, 0, none⟩ = false := by simp [World.frozen?, hR]
      have q1 : V2.cell? ⟨w.heap.size + 1 + 1, 1, none⟩ = some (.slice none 0 0) := by simp [World.cell?, hR]
      have f1 : V2.frozen? ⟨w.heap.size + 1 + 1, 1, none⟩ = false := by simp [World.frozen?, hR]
      have HB := Lib.hid (HB3.out.trans (hb2.mono (by omega)))
      clear hzz hpos1 hmm hm2 hb2 hR k0 k1
      go_wp2_with fail
      refine Lex.lexQ_normal (fun h => absurd h (by decide)) ?_
      refine Lex.lex_nil ?_
      go_wp2
      refine bodyPost_ret (v := .agg #[.bool neg1, .slice A1 n1 c1]) (by simp [results, Tryz.results332, go_sem, q0, q1]) rfl ⟨_, rfl, HST.out, ?_⟩
      exact (HB.out.setCell (by show w.heap.size ≤ w.heap.size + 1 + 1; omega) _).setCell (by show w.heap.size ≤ w.heap.size + 1 + 1; omega) _

set_option maxRecDepth 100000 in
set_option maxHeartbeats 3200000 in
theorem mul_false_true (A : Option Addr) (n c : Nat) (B : Option Addr) (m d : Nat) (xs ys : List Int) (w : World) (hA : Ints .u32 w A xs) (hC : Ints .u32 w B ys) (hn : xs.length = n) (hm : ys.length = m) (hb1 : n ≤ 400) (hb2 : m ≤ 400) (hx : DG.Dig b32 xs) (hy : DG.Dig b32 ys) :
    Calls Tryz.prog 332 #[.agg #[.bool false, .slice A n c], .agg #[.bool true, .slice B m d]] w (RetZ (-(DG.dv b32 xs * DG.dv b32 ys)) (n + m) w) := by
  have HN := Lib.hid hn
  have HM := Lib.hid hm
  have hX := fun i => hx.getD b32_one i
  have hY := fun i => hy.getD b32_one i
  have hv1 := DG.ds_getD b32 xs n (by omega)
  have hv2 := DG.ds_getD b32 ys m (by omega)
  obtain ⟨X, hXd⟩ : ∃ X : Nat → Int, X = fun i => xs.getD i 0 := ⟨_, rfl⟩
  obtain ⟨Y, hYd⟩ : ∃ Y : Nat → Int, Y = fun i => ys.getD i 0 := ⟨_, rfl⟩
  rw [← hXd] at hv1
  rw [← hYd] at hv2
  have hX' : ∀ i, 0 ≤ X i ∧ X i < b32 := fun i => by rw [hXd]; exact hX i
  have hY' : ∀ i, 0 ≤ Y i ∧ Y i < b32 := fun i => by rw [hYd]; exact hY i
  have HV1 := Lib.hid hv1
  have HV2 := Lib.hid hv2
  have HXD := Lib.hid hXd
  have HYD := Lib.hid hYd
  have HX2 := Lib.hid hX'
  have HY2 := Lib.hid hY'
  have c101 := fun (W : World) (zs : List Int) (h : Own 294 .u32 W (w.heap.size + 1 + 1 + 1) (.slice (some ⟨w.heap.size + 1 + 1 + 1, 0, none⟩) (n + m) (n + m)) (n + m) zs) => trim_any (some ⟨w.heap.size + 1 + 1 + 1, 0, none⟩) (n + m) (n + m) zs W h.ints h.len (by omega) (Nat.le_refl _) (by unfold maxLen; omega)
  have c79 := fun (v : Value) (W : World) (h : Mag W v (DG.dv b32 xs * DG.dv b32 ys) (n + m)) => made_any true v _ (n + m) W h (by omega)
  clear hx hy hX hY hXd hYd hX' hY' hn hm hv1 hv2
  have hB : Below w.heap.size w (((w.alloc (.cells #[.bool false, .slice A n c] 348)).alloc (.cells #[.bool true, .slice B m d] 348)).alloc (.cells #[.bool false, .slice none 0 0] 348)) := (((Below.refl _ _).alloc (Nat.le_refl _) _).alloc (by simp) _).alloc (by simp; omega) _
  obtain ⟨W3, hW3⟩ : ∃ W3, W3 = ((w.alloc (.cells #[.bool false, .slice A n c] 348)).alloc (.cells #[.bool true, .slice B m d] 348)).alloc (.cells #[.bool false, .slice none 0 0] 348) := ⟨_, rfl⟩
  have hs3 : W3.heap.size = w.heap.size + 1 + 1 + 1 := by rw [hW3]; simp
  have HE : ∀ W, Below (w.heap.size + 1 + 1 + 1) W3 W → W.heap[w.heap.size + 1 + 1]? = some (.cells #[.bool false, .slice none 0 0] 348 (0, 0)) := fun W hb => res_zcell rfl rfl (hW3 ▸ hb)
  rw [← hW3] at hB
  have HB3 := Lib.hid hB
  clear hB
  have HW := Lib.hid hW3
  have hbW := Below.refl (w.heap.size + 1 + 1 + 1) W3
  go_enter Tryz.func332, Tryz.ntmps332
  go_wp2_with (at_make; refine wpList_makeK elemU _ rfl _ _ rfl (w.heap.size + 1 + 1 + 1) _ _ (n + m) rfl rfl (by omega) (by omega) (by omega) (by simp) ?_)
  rw [← hW3]
  clear hW3
  intro w1 hown1 hgrow1
  have hb1 := hbW.grown hgrow1 (Nat.le_of_eq hs3.symm) (by intro k hk; cases hk)
  clear hgrow1 hbW
  have hr1 := DG.MRows.start b32_one X (DG.dv b32 ys) (n + m) m
  have k0 : W3.cell? ⟨w.heap.size, 1, none⟩ = some (.slice A n c) := by rw [HW.out]; simp [go_sem]
  have k1 : W3.cell? ⟨w.heap.size + 1, 1, none⟩ = some (.slice B m d) := by rw [HW.out]; simp [go_sem]
  have q0 := (hb1.cell (p := ⟨w.heap.size, 1, none⟩) (by show w.heap.size < w.heap.size + 1 + 1 + 1; omega)).trans k0
  go_wp2
  clear q0
  go_loopw [23] (fun i wr => ∃ (k : Nat) (zs : List Int), k ≤ n ∧ i = .int .i64 k ∧ Own 294 .u32 wr (w.heap.size + 1 + 1 + 1) (.slice (some ⟨w.heap.size + 1 + 1 + 1, 0, none⟩) (n + m) (n + m)) (n + m) zs ∧ DG.MRows b32 X (DG.dv b32 ys) (n + m) m k zs ∧ Below (w.heap.size + 1 + 1 + 1) W3 wr) (fun i _ => n - (intOf i).toNat)
  case atStart => exact ⟨0, _, Nat.zero_le _, rfl, hown1, hr1, hb1⟩
  case round =>
    clear hown1 hb1 hr1
    obtain ⟨k, zs, hk, rfl, hown, hr, hbl⟩ := hrel
    by_cases hlt : k < n
    · obtain ⟨b1, o1, rfl, hl1, hc1⟩ := (hA.below (HB3.out.trans (hbl.mono (by omega)))).get (k := k) (by rw [HN.out]; exact hlt)
      have hxk : xs[k]'(by rw [HN.out]; exact hlt) = X k := by rw [HXD.out]; simp [List.getD, show k < xs.length by rw [HN.out]; exact hlt]
      rw [hxk] at hc1
      have hxb := HX2.out k
      have q1 := (hbl.cell (p := ⟨w.heap.size + 1, 1, none⟩) (by show w.heap.size + 1 < w.heap.size + 1 + 1 + 1; omega)).trans k1
      have hrow := hr.row b32_two (X k) Y
      have HR0 := Lib.hid hr
      clear hr hxk
      generalize hxv : X k = x at *
      go_wp2
      clear hc1 q1
      go_loopw [8, 31] (fun cc j wr => ∃ (l : Nat) (zs' : List Int) (cv : Int), l ≤ m ∧ j = .int .i64 l ∧ cc = .int .u64 cv ∧ Own 294 .u32 wr (w.heap.size + 1 + 1 + 1) (.slice (some ⟨w.heap.size + 1 + 1 + 1, 0, none⟩) (n + m) (n + m)) (n + m) zs' ∧ DG.MRow b32 (DG.dv b32 zs) x Y (n + m) k m l zs' cv ∧ Below (w.heap.size + 1 + 1 + 1) W3 wr) (fun _ j _ => m - (intOf j).toNat)
      case atStart => exact ⟨0, zs, 0, Nat.zero_le _, rfl, rfl, hown, hrow, hbl⟩
      case round =>
        clear hown hrow hbl
        obtain ⟨l, zs', cv, hl, rfl, rfl, hown, hrow, hbl⟩ := hrel
        by_cases hlm : l < m
        · obtain ⟨b2, o2, rfl, hl2, hc2⟩ := (hC.below (HB3.out.trans (hbl.mono (by omega)))).get (k := l) (by rw [HM.out]; exact hlm)
          have hyl : ys[l]'(by rw [HM.out]; exact hlm) = Y l := by rw [HYD.out]; simp [List.getD, show l < ys.length by rw [HM.out]; exact hlm]
          rw [hyl] at hc2
          have hyb := HY2.out l
          have hlen := hrow.len
          have hcv := hrow.car
          have hzb := hrow.dig.getD b32_one (k + l)
          have hco : wr.cell? ⟨w.heap.size + 1 + 1 + 1, k + l, none⟩ = some (.int .u32 (zs'.getD (k + l) 0)) := hown.cellD (by omega)
          have ht := DG.mul_t b32_two hxb hyb hzb hcv
          have hstep := hrow.step b32_two (by omega) hlm hxb hyb
          have hfz := hown.frozen (k + l)
          have hown2 := hown.set (k + l) ((x * Y l + zs'.getD (k + l) 0 + cv) % b32)
          have hbl2 := hbl.setCell (p := ⟨w.heap.size + 1 + 1 + 1, k + l, none⟩) (Nat.le_refl _) (.int .u32 ((x * Y l + zs'.getD (k + l) 0 + cv) % b32))
          rw [show b32 = 4294967296 from rfl] at hown2 hbl2 hyb hcv hzb ht
          rw [show b32 = 4294967296 from rfl] at hxb
          have HST := Lib.hid hstep
          have HOW := Lib.hid hown2
          have HBL := Lib.hid hbl2
          clear hstep hown2 hbl2 hrow hown hyl
          have j1 : ((k : Int) + (l : Int)).toNat = k + l := by omega
          generalize zs'.getD (k + l) 0 = z at *
          generalize Y l = y at *
          have w1 : IntKind.u64.wrap (x * y) = x * y := u64_in _ (by omega)
          have w2 : IntKind.u64.wrap (x * y + z) = x * y + z := u64_in _ (by omega)
          have w3 : IntKind.u64.wrap (x * y + z + cv) = x * y + z + cv := u64_in _ (by omega)
          have W1 := Lib.hid w1
          have W2 := Lib.hid w2
          have W3' := Lib.hid w3
          clear hlen HR0 ht w1 w2 w3
          go_wp2
          rw [W1.out, W2.out, W3'.out]
          go_roundw
          case rel => exact ⟨l + 1, _, _, by omega, by go_num, rfl, HOW.out, HST.out, HBL.out⟩
          case measure => simp [intOf]; omega
        · obtain rfl : l = m := by omega
          have hlen := hrow.len
          have hcv := hrow.car
          have hco : wr.cell? ⟨w.heap.size + 1 + 1 + 1, k + l, none⟩ = some (.int .u32 (zs'.getD (k + l) 0)) := hown.cellD (by omega)
          have hfz := hown.frozen (k + l)
          have hdone := DG.MRow.done HR0.out (hxv ▸ hrow) (by omega) HV2.out
          have hown2 := hown.set (k + l) cv
          have hbl2 := hbl.setCell (p := ⟨w.heap.size + 1 + 1 + 1, k + l, none⟩) (Nat.le_refl _) (.int .u32 cv)
          have q1 := (hbl.cell (p := ⟨w.heap.size + 1, 1, none⟩) (by show w.heap.size + 1 < w.heap.size + 1 + 1 + 1; omega)).trans k1
          rw [show b32 = 4294967296 from rfl] at hcv
          have HST := Lib.hid hdone
          have HOW := Lib.hid hown2
          have HBL := Lib.hid hbl2
          have j1 : ((k : Int) + (l : Int)).toNat = k + l := by omega
          have m1 : cv % 4294967296 = cv := by omega
          generalize zs'.getD (k + l) 0 = z at *
          clear hdone hown2 hbl2 hrow hown HR0 hxb hlen
          go_wp2
          go_roundw
          case rel => exact ⟨k + 1, _, by omega, by go_num, HOW.out, HST.out, HBL.out⟩
          case measure => simp [intOf]; omega
    · obtain rfl : n = k := by omega
      have hval := hr.val
      rw [HV1.out] at hval
      have hmag := Mag.trimmed hown hr.dig (Nat.le_refl _)
      rw [hval] at hmag
      have c : Calls Tryz.prog 400 #[.slice (some ⟨w.heap.size + 1 + 1 + 1, 0, none⟩) (n + m) (n + m)] wr.drew (RetMag (DG.dv b32 xs * DG.dv b32 ys) (n + m) wr.drew) := (c101 wr.drew zs hown.drew).mono fun e w' h => ⟨_, h.1, by rw [h.2]; exact hmag.drewN 1, by rw [h.2]; exact Below.refl _ _⟩
      clear c101
      have hbW := hbl
      clear hval hmag hr hown hbl k0 k1
      go_wp2
      have k0 : W3.cell? ⟨w.heap.size, 0, none⟩ = some (.bool false) := by rw [HW.out]; simp [go_sem]
      have j0 := (hbW.cell (p := ⟨w.heap.size, 0, none⟩) (by show w.heap.size < w.heap.size + 1 + 1 + 1; omega)).trans k0
      have k1 : W3.cell? ⟨w.heap.size + 1, 0, none⟩ = some (.bool true) := by rw [HW.out]; simp [go_sem]
      have j1 := (hbW.cell (p := ⟨w.heap.size + 1, 0, none⟩) (by show w.heap.size + 1 < w.heap.size + 1 + 1 + 1; omega)).trans k1
      refine Lex.wp_region_lex (fun w' => w'.cell? ⟨w.heap.size, 0, none⟩ = some (.bool false) ∧ w'.cell? ⟨w.heap.size + 1, 0, none⟩ = some (.bool true)) (fun j => j != 8)
        [(0, true), (1, true), (2, true), (3, true), (4, true), (5, true), (6, false), (7, false), (8, false)]
        (by kernel_rfl) (by kernel_rfl) (by kernel_rfl) (by kernel_rfl) ⟨j0, j1⟩ ?_
      iterate 6 (refine Lex.lex_take (v := ?_) rfl rfl (by rfl) (fun _ hS => ?_) ?_; rotate_left 1; (focus (go_split_ands; go_simp; with_reducible rfl)); simp only [List.setIfInBounds_toArray, List.set_cons_zero, List.set_cons_succ])
      refine Lex.lex_do rfl ?_
      have hb0 : Below (w.heap.size + 1 + 1 + 1) W3 wr.drew := hbW.drew
      generalize wr.drew = V0 at *
      clear hbW j0 j1
      go_wp2_with fail
      refine (c).mono ?_
      rintro e V1 ⟨v1, rfl, hm1, hn1⟩
      have hb1 : Below (w.heap.size + 1 + 1 + 1) W3 V1 := hb0.trans (hn1.mono (by have := hb0.size; omega))
      have j0 := (hb1.cell (p := ⟨w.heap.size, 0, none⟩) (by show w.heap.size < w.heap.size + 1 + 1 + 1; omega)).trans k0
      have j1 := (hb1.cell (p := ⟨w.heap.size + 1, 0, none⟩) (by show w.heap.size + 1 < w.heap.size + 1 + 1 + 1; omega)).trans k1
      clear hb0 hn1
      go_wp2_with fail
      refine Lex.lexQ_normal (fun _ => ⟨j0, j1⟩) ?_
      refine Lex.lex_do rfl ?_
      clear j0 j1
      clear c
      replace c79 := c79 _ _ hm1
      go_wp2_with fail
      refine (c79).mono ?_
      rintro e V2 ⟨v2, rfl, hm2, hn2⟩
      have hb2 : Below (w.heap.size + 1 + 1 + 1) W3 V2 := hb1.trans (hn2.mono (by have := hb1.size; omega))
      have j0 := (hb2.cell (p := ⟨w.heap.size, 0, none⟩) (by show w.heap.size < w.heap.size + 1 + 1 + 1; omega)).trans k0
      have j1 := (hb2.cell (p := ⟨w.heap.size + 1, 0, none⟩) (by show w.heap.size + 1 < w.heap.size + 1 + 1 + 1; omega)).trans k1
      clear hb1 hn2
      go_wp2_with fail
      refine Lex.lexQ_normal (fun _ => ⟨j0, j1⟩) ?_
      refine Lex.lex_do rfl ?_
      clear j0 j1
      obtain ⟨neg1, A1, n1, c1, m1, rfl, hmm, hzz, hpos1, _, _⟩ := hm2.open'
      have hR := HE _ hb2
      have HST := Lib.hid (hm2.stored (u0 := .bool neg1) (u1 := .slice A1 n1 c1) hR)
      have q0 : V2.cell? ⟨w.heap.size + 1 + 1, 0, none⟩ = some (.bool false) := by simp [World.cell?, hR]
      have f0 : V2.frozen? ⟨w.heap.size + 1 + 1, 0, none⟩ = false := by simp [World.frozen?, hR]
      have q1 : V2.cell? ⟨w.heap.size + 1 + 1, 1, none⟩ = some (.slice none 0 0) := by simp [World.cell?, hR]
      have f1 : V2.frozen? ⟨w.heap.size + 1 + 1, 1, none⟩ = false := by simp [World.frozen?, hR]
      have HB := Lib.hid (HB3.out.trans (hb2.mono (by omega)))
      clear hzz hpos1 hmm hm2 hb2 hR k0 k1
      go_wp2_with fail
      refine Lex.lexQ_normal (fun h => absurd h (by decide)) ?_
      refine Lex.lex_nil ?_
      go_wp2
      refine bodyPost_ret (v := .agg #[.bool neg1, .slice A1 n1 c1]) (by simp [results, Tryz.results332, go_sem, q0, q1]) rfl ⟨_, rfl, HST.out, ?_⟩
      exact (HB.out.setCell (by show w.heap.size ≤ w.heap.size + 1 + 1; omega) _).setCell (by show w.heap.size ≤ w.heap.size + 1 + 1; omega) _

set_option maxRecDepth 100000 in
set_option maxHeartbeats 3200000 in
theorem mul_true_false (A : Option Addr) (n c : Nat) (B : Option Addr) (m d : Nat) (xs ys : List Int) (w : World) (hA : Ints .u32 w A xs) (hC : Ints .u32 w B ys) (hn : xs.length = n) (hm : ys.length = m) (hb1 : n ≤ 400) (hb2 : m ≤ 400) (hx : DG.Dig b32 xs) (hy : DG.Dig b32 ys) :
    Calls Tryz.prog 332 #[.agg #[.bool true, .slice A n c], .agg #[.bool false, .slice B m d]] w (RetZ (-(DG.dv b32 xs * DG.dv b32 ys)) (n + m) w) := by
  have HN := Lib.hid hn
  have HM := Lib.hid hm
  have hX := fun i => hx.getD b32_one i
  have hY := fun i => hy.getD b32_one i
  have hv1 := DG.ds_getD b32 xs n (by omega)
  have hv2 := DG.ds_getD b32 ys m (by omega)
  obtain ⟨X, hXd⟩ : ∃ X : Nat → Int, X = fun i => xs.getD i 0 := ⟨_, rfl⟩
  obtain ⟨Y, hYd⟩ : ∃ Y : Nat → Int, Y = fun i => ys.getD i 0 := ⟨_, rfl⟩
  rw [← hXd] at hv1
  rw [← hYd] at hv2
  have hX' : ∀ i, 0 ≤ X i ∧ X i < b32 := fun i => by rw [hXd]; exact hX i
  have hY' : ∀ i, 0 ≤ Y i ∧ Y i < b32 := fun i => by rw [hYd]; exact hY i
  have HV1 := Lib.hid hv1
  have HV2 := Lib.hid hv2
  have HXD := Lib.hid hXd
  have HYD := Lib.hid hYd
  have HX2 := Lib.hid hX'
  have HY2 := Lib.hid hY'
  have c101 := fun (W : World) (zs : List Int) (h : Own 294 .u32 W (w.heap.size + 1 + 1 + 1) (.slice (some ⟨w.heap.size + 1 + 1 + 1, 0, none⟩) (n + m) (n + m)) (n + m) zs) => trim_any (some ⟨w.heap.size + 1 + 1 + 1, 0, none⟩) (n + m) (n + m) zs W h.ints h.len (by omega) (Nat.le_refl _) (by unfold maxLen; omega)
  have c79 := fun (v : Value) (W : World) (h : Mag W v (DG.dv b32 xs * DG.dv b32 ys) (n + m)) => made_any true v _ (n + m) W h (by omega)
  clear hx hy hX hY hXd hYd hX' hY' hn hm hv1 hv2
  have hB : Below w.heap.size w (((w.alloc (.cells #[.bool true, .slice A n c] 348)).alloc (.cells #[.bool false, .slice B m d] 348)).alloc (.cells #[.bool false, .slice none 0 0] 348)) := (((Below.refl _ _).alloc (Nat.le_refl _) _).alloc (by simp) _).alloc (by simp; omega) _
  obtain ⟨W3, hW3⟩ : ∃ W3, W3 = ((w.alloc (.cells #[.bool true, .slice A n c] 348)).alloc (.cells #[.bool false, .slice B m d] 348)).alloc (.cells #[.bool false, .slice none 0 0] 348) := ⟨_, rfl⟩
  have hs3 : W3.heap.size = w.heap.size + 1 + 1 + 1 := by rw [hW3]; simp
  have HE : ∀ W, Below (w.heap.size + 1 + 1 + 1) W3 W → W.heap[w.heap.size + 1 + 1]? = some (.cells #[.bool false, .slice none 0 0] 348 (0, 0)) := fun W hb => res_zcell rfl rfl (hW3 ▸ hb)
  rw [← hW3] at hB
  have HB3 := Lib.hid hB
  clear hB
  have HW := Lib.hid hW3
  have hbW := Below.refl (w.heap.size + 1 + 1 + 1) W3
  go_enter Tryz.func332, Tryz.ntmps332
  go_wp2_with (at_make; refine wpList_makeK elemU _ rfl _ _ rfl (w.heap.size + 1 + 1 + 1) _ _ (n + m) rfl rfl (by omega) (by omega) (by omega) (by simp) ?_)
  rw [← hW3]
  clear hW3
  intro w1 hown1 hgrow1
  have hb1 := hbW.grown hgrow1 (Nat.le_of_eq hs3.symm) (by intro k hk; cases hk)
  clear hgrow1 hbW
  have hr1 := DG.MRows.start b32_one X (DG.dv b32 ys) (n + m) m
  have k0 : W3.cell? ⟨w.heap.size, 1, none⟩ = some (.slice A n c) := by rw [HW.out]; simp [go_sem]
  have k1 : W3.cell? ⟨w.heap.size + 1, 1, none⟩ = some (.slice B m d) := by rw [HW.out]; simp [go_sem]
  have q0 := (hb1.cell (p := ⟨w.heap.size, 1, none⟩) (by show w.heap.size < w.heap.size + 1 + 1 + 1; omega)).trans k0
  go_wp2
  clear q0
  go_loopw [23] (fun i wr => ∃ (k : Nat) (zs : List Int), k ≤ n ∧ i = .int .i64 k ∧ Own 294 .u32 wr (w.heap.size + 1 + 1 + 1) (.slice (some ⟨w.heap.size + 1 + 1 + 1, 0, none⟩) (n + m) (n + m)) (n + m) zs ∧ DG.MRows b32 X (DG.dv b32 ys) (n + m) m k zs ∧ Below (w.heap.size + 1 + 1 + 1) W3 wr) (fun i _ => n - (intOf i).toNat)
  case atStart => exact ⟨0, _, Nat.zero_le _, rfl, hown1, hr1, hb1⟩
  case round =>
    clear hown1 hb1 hr1
    obtain ⟨k, zs, hk, rfl, hown, hr, hbl⟩ := hrel
    by_cases hlt : k < n
    · obtain ⟨b1, o1, rfl, hl1, hc1⟩ := (hA.below (HB3.out.trans (hbl.mono (by omega)))).get (k := k) (by rw [HN.out]; exact hlt)
      have hxk : xs[k]'(by rw [HN.out]; exact hlt) = X k := by rw [HXD.out]; simp [List.getD, show k < xs.length by rw [HN.out]; exact hlt]
      rw [hxk] at hc1
      have hxb := HX2.out k
      have q1 := (hbl.cell (p := ⟨w.heap.size + 1, 1, none⟩) (by show w.heap.size + 1 < w.heap.size + 1 + 1 + 1; omega)).trans k1
      have hrow := hr.row b32_two (X k) Y
      have HR0 := Lib.hid hr
      clear hr hxk
      generalize hxv : X k = x at *
      go_wp2
      clear hc1 q1
      go_loopw [8, 31] (fun cc j wr => ∃ (l : Nat) (zs' : List Int) (cv : Int), l ≤ m ∧ j = .int .i64 l ∧ cc = .int .u64 cv ∧ Own 294 .u32 wr (w.heap.size + 1 + 1 + 1) (.slice (some ⟨w.heap.size + 1 + 1 + 1, 0, none⟩) (n + m) (n + m)) (n + m) zs' ∧ DG.MRow b32 (DG.dv b32 zs) x Y (n + m) k m l zs' cv ∧ Below (w.heap.size + 1 + 1 + 1) W3 wr) (fun _ j _ => m - (intOf j).toNat)
      case atStart => exact ⟨0, zs, 0, Nat.zero_le _, rfl, rfl, hown, hrow, hbl⟩
      case round =>
        clear hown hrow hbl
        obtain ⟨l, zs', cv, hl, rfl, rfl, hown, hrow, hbl⟩ := hrel
        by_cases hlm : l < m
        · obtain ⟨b2, o2, rfl, hl2, hc2⟩ := (hC.below (HB3.out.trans (hbl.mono (by omega)))).get (k := l) (by rw [HM.out]; exact hlm)
          have hyl : ys[l]'(by rw [HM.out]; exact hlm) = Y l := by rw [HYD.out]; simp [List.getD, show l < ys.length by rw [HM.out]; exact hlm]
          rw [hyl] at hc2
          have hyb := HY2.out l
          have hlen := hrow.len
          have hcv := hrow.car
          have hzb := hrow.dig.getD b32_one (k + l)
          have hco : wr.cell? ⟨w.heap.size + 1 + 1 + 1, k + l, none⟩ = some (.int .u32 (zs'.getD (k + l) 0)) := hown.cellD (by omega)
          have ht := DG.mul_t b32_two hxb hyb hzb hcv
          have hstep := hrow.step b32_two (by omega) hlm hxb hyb
          have hfz := hown.frozen (k + l)
          have hown2 := hown.set (k + l) ((x * Y l + zs'.getD (k + l) 0 + cv) % b32)
          have hbl2 := hbl.setCell (p := ⟨w.heap.size + 1 + 1 + 1, k + l, none⟩) (Nat.le_refl _) (.int .u32 ((x * Y l + zs'.getD (k + l) 0 + cv) % b32))
          rw [show b32 = 4294967296 from rfl] at hown2 hbl2 hyb hcv hzb ht
          rw [show b32 = 4294967296 from rfl] at hxb
          have HST := Lib.hid hstep
          have HOW := Lib.hid hown2
          have HBL := Lib.hid hbl2
          clear hstep hown2 hbl2 hrow hown hyl
          have j1 : ((k : Int) + (l : Int)).toNat = k + l := by omega
          generalize zs'.getD (k + l) 0 = z at *
          generalize Y l = y at *
          have w1 : IntKind.u64.wrap (x * y) = x * y := u64_in _ (by omega)
          have w2 : IntKind.u64.wrap (x * y + z) = x * y + z := u64_in _ (by omega)
          have w3 : IntKind.u64.wrap (x * y + z + cv) = x * y + z + cv := u64_in _ (by omega)
          have W1 := Lib.hid w1
          have W2 := Lib.hid w2
          have W3' := Lib.hid w3
          clear hlen HR0 ht w1 w2 w3
          go_wp2
          rw [W1.out, W2.out, W3'.out]
          go_roundw
          case rel => exact ⟨l + 1, _, _, by omega, by go_num, rfl, HOW.out, HST.out, HBL.out⟩
          case measure => simp [intOf]; omega
        · obtain rfl : l = m := by omega
          have hlen := hrow.len
          have hcv := hrow.car
          have hco : wr.cell? ⟨w.heap.size + 1 + 1 + 1, k + l, none⟩ = some (.int .u32 (zs'.getD (k + l) 0)) := hown.cellD (by omega)
          have hfz := hown.frozen (k + l)
          have hdone := DG.MRow.done HR0.out (hxv ▸ hrow) (by omega) HV2.out
          have hown2 := hown.set (k + l) cv
          have hbl2 := hbl.setCell (p := ⟨w.heap.size + 1 + 1 + 1, k + l, none⟩) (Nat.le_refl _) (.int .u32 cv)
          have q1 := (hbl.cell (p := ⟨w.heap.size + 1, 1, none⟩) (by show w.heap.size + 1 < w.heap.size + 1 + 1 + 1; omega)).trans k1
          rw [show b32 = 4294967296 from rfl] at hcv
          have HST := Lib.hid hdone
          have HOW := Lib.hid hown2
          have HBL := Lib.hid hbl2
          have j1 : ((k : Int) + (l : Int)).toNat = k + l := by omega
          have m1 : cv % 4294967296 = cv := by omega
          generalize zs'.getD (k + l) 0 = z at *
          clear hdone hown2 hbl2 hrow hown HR0 hxb hlen
          go_wp2
          go_roundw
          case rel => exact ⟨k + 1, _, by omega, by go_num, HOW.out, HST.out, HBL.out⟩
          case measure => simp [intOf]; omega
    · obtain rfl : n = k := by omega
      have hval := hr.val
      rw [HV1.out] at hval
      have hmag := Mag.trimmed hown hr.dig (Nat.le_refl _)
      rw [hval] at hmag
      have c : Calls Tryz.prog 400 #[.slice (some ⟨w.heap.size + 1 + 1 + 1, 0, none⟩) (n + m) (n + m)] wr.drew (RetMag (DG.dv b32 xs * DG.dv b32 ys) (n + m) wr.drew) := (c101 wr.drew zs hown.drew).mono fun e w' h => ⟨_, h.1, by rw [h.2]; exact hmag.drewN 1, by rw [h.2]; exact Below.refl _ _⟩
      clear c101
      have hbW := hbl
      clear hval hmag hr hown hbl k0 k1
      go_wp2
      have k0 : W3.cell? ⟨w.heap.size, 0, none⟩ = some (.bool true) := by rw [HW.out]; simp [go_sem]
      have j0 := (hbW.cell (p := ⟨w.heap.size, 0, none⟩) (by show w.heap.size < w.heap.size + 1 + 1 + 1; omega)).trans k0
      have k1 : W3.cell? ⟨w.heap.size + 1, 0, none⟩ = some (.bool false) := by rw [HW.out]; simp [go_sem]
      have j1 := (hbW.cell (p := ⟨w.heap.size + 1, 0, none⟩) (by show w.heap.size + 1 < w.heap.size + 1 + 1 + 1; omega)).trans k1
      refine Lex.wp_region_lex (fun w' => w'.cell? ⟨w.heap.size, 0, none⟩ = some (.bool true) ∧ w'.cell? ⟨w.heap.size + 1, 0, none⟩ = some (.bool false)) (fun j => j != 8)
        [(0, true), (1, true), (2, true), (3, true), (4, true), (5, true), (6, false), (7, false), (8, false)]
        (by kernel_rfl) (by kernel_rfl) (by kernel_rfl) (by kernel_rfl) ⟨j0, j1⟩ ?_
      iterate 6 (refine Lex.lex_take (v := ?_) rfl rfl (by rfl) (fun _ hS => ?_) ?_; rotate_left 1; (focus (go_split_ands; go_simp; with_reducible rfl)); simp only [List.setIfInBounds_toArray, List.set_cons_zero, List.set_cons_succ])
      refine Lex.lex_do rfl ?_
      have hb0 : Below (w.heap.size + 1 + 1 + 1) W3 wr.drew := hbW.drew
      generalize wr.drew = V0 at *
      clear hbW j0 j1
      go_wp2_with fail
      refine (c).mono ?_
      rintro e V1 ⟨v1, rfl, hm1, hn1⟩
      have hb1 : Below (w.heap.size + 1 + 1 + 1) W3 V1 := hb0.trans (hn1.mono (by have := hb0.size; omega))
      have j0 := (hb1.cell (p := ⟨w.heap.size, 0, none⟩) (by show w.heap.size < w.heap.size + 1 + 1 + 1; omega)).trans k0
      have j1 := (hb1.cell (p := ⟨w.heap.size + 1, 0, none⟩) (by show w.heap.size + 1 < w.heap.size + 1 + 1 + 1; omega)).trans k1
      clear hb0 hn1
      go_wp2_with fail
      refine Lex.lexQ_normal (fun _ => ⟨j0, j1⟩) ?_
      refine Lex.lex_do rfl ?_
      clear j0 j1
      clear c
      replace c79 := c79 _ _ hm1
      go_wp2_with fail
      refine (c79).mono ?_
      rintro e V2 ⟨v2, rfl, hm2, hn2⟩
      have hb2 : Below (w.heap.size + 1 + 1 + 1) W3 V2 := hb1.trans (hn2.mono (by have := hb1.size; omega))
      have j0 := (hb2.cell (p := ⟨w.heap.size, 0, none⟩) (by show w.heap.size < w.heap.size + 1 + 1 + 1; omega)).trans k0
      have j1 := (hb2.cell (p := ⟨w.heap.size + 1, 0, none⟩) (by show w.heap.size + 1 < w.heap.size + 1 + 1 + 1; omega)).trans k1
      clear hb1 hn2
      go_wp2_with fail
      refine Lex.lexQ_normal (fun _ => ⟨j0, j1⟩) ?_
      refine Lex.lex_do rfl ?_
      clear j0 j1
      obtain ⟨neg1, A1, n1, c1, m1, rfl, hmm, hzz, hpos1, _, _⟩ := hm2.open'
      have hR := HE _ hb2
      have HST := Lib.hid (hm2.stored (u0 := .bool neg1) (u1 := .slice A1 n1 c1) hR)
      have q0 : V2.cell? ⟨w.heap.size + 1 + 1, 0, none⟩ = some (.bool false) := by simp [World.cell?, hR]
      have f0 : V2.frozen? ⟨w.heap.size + 1 + 1, 0, none⟩ = false := by simp [World.frozen?, hR]
      have q1 : V2.cell? ⟨w.heap.size + 1 + 1, 1, none⟩ = some (.slice none 0 0) := by simp [World.cell?, hR]
      have f1 : V2.frozen? ⟨w.heap.size + 1 + 1, 1, none⟩ = false := by simp [World.frozen?, hR]
      have HB := Lib.hid (HB3.out.trans (hb2.mono (by omega)))
      clear hzz hpos1 hmm hm2 hb2 hR k0 k1
      go_wp2_with fail
      refine Lex.lexQ_normal (fun h => absurd h (by decide)) ?_
      refine Lex.lex_nil ?_
      go_wp2
      refine bodyPost_ret (v := .agg #[.bool neg1, .slice A1 n1 c1]) (by simp [results, Tryz.results332, go_sem, q0, q1]) rfl ⟨_, rfl, HST.out, ?_⟩
      exact (HB.out.setCell (by show w.heap.size ≤ w.heap.size + 1 + 1; omega) _).setCell (by show w.heap.size ≤ w.heap.size + 1 + 1; omega) _

set_option maxRecDepth 100000 in
set_option maxHeartbeats 3200000 in
theorem mul_true_true (A : Option Addr) (n c : Nat) (B : Option Addr) (m d : Nat) (xs ys : List Int) (w : World) (hA : Ints .u32 w A xs) (hC : Ints .u32 w B ys) (hn : xs.length = n) (hm : ys.length = m) (hb1 : n ≤ 400) (hb2 : m ≤ 400) (hx : DG.Dig b32 xs) (hy : DG.Dig b32 ys) :
    Calls Tryz.prog 332 #[.agg #[.bool true, .slice A n c], .agg #[.bool true, .slice B m d]] w (RetZ ((DG.dv b32 xs * DG.dv b32 ys)) (n + m) w) := by
  have HN := Lib.hid hn
  have HM := Lib.hid hm
  have hX := fun i => hx.getD b32_one i
  have hY := fun i => hy.getD b32_one i
  have hv1 := DG.ds_getD b32 xs n (by omega)
  have hv2 := DG.ds_getD b32 ys m (by omega)
  obtain ⟨X, hXd⟩ : ∃ X : Nat → Int, X = fun i => xs.getD i 0 := ⟨_, rfl⟩
  obtain ⟨Y, hYd⟩ : ∃ Y : Nat → Int, Y = fun i => ys.getD i 0 := ⟨_, rfl⟩
  rw [← hXd] at hv1
  rw [← hYd] at hv2
  have hX' : ∀ i, 0 ≤ X i ∧ X i < b32 := fun i => by rw [hXd]; exact hX i
  have hY' : ∀ i, 0 ≤ Y i ∧ Y i < b32 := fun i => by rw [hYd]; exact hY i
  have HV1 := Lib.hid hv1
  have HV2 := Lib.hid hv2
  have HXD := Lib.hid hXd
  have HYD := Lib.hid hYd
  have HX2 := Lib.hid hX'
  have HY2 := Lib.hid hY'
  have c101 := fun (W : World) (zs : List Int) (h : Own 294 .u32 W (w.heap.size + 1 + 1 + 1) (.slice (some ⟨w.heap.size + 1 + 1 + 1, 0, none⟩) (n + m) (n + m)) (n + m) zs) => trim_any (some ⟨w.heap.size + 1 + 1 + 1, 0, none⟩) (n + m) (n + m) zs W h.ints h.len (by omega) (Nat.le_refl _) (by unfold maxLen; omega)
  have c79 := fun (v : Value) (W : World) (h : Mag W v (DG.dv b32 xs * DG.dv b32 ys) (n + m)) => made_any false v _ (n + m) W h (by omega)
  clear hx hy hX hY hXd hYd hX' hY' hn hm hv1 hv2
  have hB : Below w.heap.size w (((w.alloc (.cells #[.bool true, .slice A n c] 348)).alloc (.cells #[.bool true, .slice B m d] 348)).alloc (.cells #[.bool false, .slice none 0 0] 348)) := (((Below.refl _ _).alloc (Nat.le_refl _) _).alloc (by simp) _).alloc (by simp; omega) _
  obtain ⟨W3, hW3⟩ : ∃ W3, W3 = ((w.alloc (.cells #[.bool true, .slice A n c] 348)).alloc (.cells #[.bool true, .slice B m d] 348)).alloc (.cells #[.bool false, .slice none 0 0] 348) := ⟨_, rfl⟩
  have hs3 : W3.heap.size = w.heap.size + 1 + 1 + 1 := by rw [hW3]; simp
  have HE : ∀ W, Below (w.heap.size + 1 + 1 + 1) W3 W → W.heap[w.heap.size + 1 + 1]? = some (.cells #[.bool false, .slice none 0 0] 348 (0, 0)) := fun W hb => res_zcell rfl rfl (hW3 ▸ hb)
  rw [← hW3] at hB
  have HB3 := Lib.hid hB
  clear hB
  have HW := Lib.hid hW3
  have hbW := Below.refl (w.heap.size + 1 + 1 + 1) W3
  go_enter Tryz.func332, Tryz.ntmps332
  go_wp2_with (at_make; refine wpList_makeK elemU _ rfl _ _ rfl (w.heap.size + 1 + 1 + 1) _ _ (n + m) rfl rfl (by omega) (by omega) (by omega) (by simp) ?_)
  rw [← hW3]
  clear hW3
  intro w1 hown1 hgrow1
  have hb1 := hbW.grown hgrow1 (Nat.le_of_eq hs3.symm) (by intro k hk; cases hk)
  clear hgrow1 hbW
  have hr1 := DG.MRows.start b32_one X (DG.dv b32 ys) (n + m) m
  have k0 : W3.cell? ⟨w.heap.size, 1, none⟩ = some (.slice A n c) := by rw [HW.out]; simp [go_sem]
  have k1 : W3.cell? ⟨w.heap.size + 1, 1, none⟩ = some (.slice B m d) := by rw [HW.out]; simp [go_sem]
  have q0 := (hb1.cell (p := ⟨w.heap.size, 1, none⟩) (by show w.heap.size < w.heap.size + 1 + 1 + 1; omega)).trans k0
  go_wp2
  clear q0
  go_loopw [23] (fun i wr => ∃ (k : Nat) (zs : List Int), k ≤ n ∧ i = .int .i64 k ∧ Own 294 .u32 wr (w.heap.size + 1 + 1 + 1) (.slice (some ⟨w.heap.size + 1 + 1 + 1, 0, none⟩) (n + m) (n + m)) (n + m) zs ∧ DG.MRows b32 X (DG.dv b32 ys) (n + m) m k zs ∧ Below (w.heap.size + 1 + 1 + 1) W3 wr) (fun i _ => n - (intOf i).toNat)
  case atStart => exact ⟨0, _, Nat.zero_le _, rfl, hown1, hr1, hb1⟩
  case round =>
    clear hown1 hb1 hr1
    obtain ⟨k, zs, hk, rfl, hown, hr, hbl⟩ := hrel
    by_cases hlt : k < n
    · obtain ⟨b1, o1, rfl, hl1, hc1⟩ := (hA.below (HB3.out.trans (hbl.mono (by omega)))).get (k := k) (by rw [HN.out]; exact hlt)
      have hxk : xs[k]'(by rw [HN.out]; exact hlt) = X k := by rw [HXD.out]; simp [List.getD, show k < xs.length by rw [HN.out]; exact hlt]
      rw [hxk] at hc1
      have hxb := HX2.out k
      have q1 := (hbl.cell (p := ⟨w.heap.size + 1, 1, none⟩) (by show w.heap.size + 1 < w.heap.size + 1 + 1 + 1; omega)).trans k1
      have hrow := hr.row b32_two (X k) Y
      have HR0 := Lib.hid hr
      clear hr hxk
      generalize hxv : X k = x at *
      go_wp2
      clear hc1 q1
      go_loopw [8, 31] (fun cc j wr => ∃ (l : Nat) (zs' : List Int) (cv : Int), l ≤ m ∧ j = .int .i64 l ∧ cc = .int .u64 cv ∧ Own 294 .u32 wr (w.heap.size + 1 + 1 + 1) (.slice (some ⟨w.heap.size + 1 + 1 + 1, 0, none⟩) (n + m) (n + m)) (n + m) zs' ∧ DG.MRow b32 (DG.dv b32 zs) x Y (n + m) k m l zs' cv ∧ Below (w.heap.size + 1 + 1 + 1) W3 wr) (fun _ j _ => m - (intOf j).toNat)
      case atStart => exact ⟨0, zs, 0, Nat.zero_le _, rfl, rfl, hown, hrow, hbl⟩
      case round =>
        clear hown hrow hbl
        obtain ⟨l, zs', cv, hl, rfl, rfl, hown, hrow, hbl⟩ := hrel
        by_cases hlm : l < m
        · obtain ⟨b2, o2, rfl, hl2, hc2⟩ := (hC.below (HB3.out.trans (hbl.mono (by omega)))).get (k := l) (by rw [HM.out]; exact hlm)
          have hyl : ys[l]'(by rw [HM.out]; exact hlm) = Y l := by rw [HYD.out]; simp [List.getD, show l < ys.length by rw [HM.out]; exact hlm]
          rw [hyl] at hc2
          have hyb := HY2.out l
          have hlen := hrow.len
          have hcv := hrow.car
          have hzb := hrow.dig.getD b32_one (k + l)
          have hco : wr.cell? ⟨w.heap.size + 1 + 1 + 1, k + l, none⟩ = some (.int .u32 (zs'.getD (k + l) 0)) := hown.cellD (by omega)
          have ht := DG.mul_t b32_two hxb hyb hzb hcv
          have hstep := hrow.step b32_two (by omega) hlm hxb hyb
          have hfz := hown.frozen (k + l)
          have hown2 := hown.set (k + l) ((x * Y l + zs'.getD (k + l) 0 + cv) % b32)
          have hbl2 := hbl.setCell (p := ⟨w.heap.size + 1 + 1 + 1, k + l, none⟩) (Nat.le_refl _) (.int .u32 ((x * Y l + zs'.getD (k + l) 0 + cv) % b32))
          rw [show b32 = 4294967296 from rfl] at hown2 hbl2 hyb hcv hzb ht
          rw [show b32 = 4294967296 from rfl] at hxb
          have HST := Lib.hid hstep
          have HOW := Lib.hid hown2
          have HBL := Lib.hid hbl2
          clear hstep hown2 hbl2 hrow hown hyl
          have j1 : ((k : Int) + (l : Int)).toNat = k + l := by omega
          generalize zs'.getD (k + l) 0 = z at *
          generalize Y l = y at *
          have w1 : IntKind.u64.wrap (x * y) = x * y := u64_in _ (by omega)
          have w2 : IntKind.u64.wrap (x * y + z) = x * y + z := u64_in _ (by omega)
          have w3 : IntKind.u64.wrap (x * y + z + cv) = x * y + z + cv := u64_in _ (by omega)
          have W1 := Lib.hid w1
          have W2 := Lib.hid w2
          have W3' := Lib.hid w3
          clear hlen HR0 ht w1 w2 w3
          go_wp2
          rw [W1.out, W2.out, W3'.out]
          go_roundw
          case rel => exact ⟨l + 1, _, _, by omega, by go_num, rfl, HOW.out, HST.out, HBL.out⟩
          case measure => simp [intOf]; omega
        · obtain rfl : l = m := by omega
          have hlen := hrow.len
          have hcv := hrow.car
          have hco : wr.cell? ⟨w.heap.size + 1 + 1 + 1, k + l, none⟩ = some (.int .u32 (zs'.getD (k + l) 0)) := hown.cellD (by omega)
          have hfz := hown.frozen (k + l)
          have hdone := DG.MRow.done HR0.out (hxv ▸ hrow) (by omega) HV2.out
          have hown2 := hown.set (k + l) cv
          have hbl2 := hbl.setCell (p := ⟨w.heap.size + 1 + 1 + 1, k + l, none⟩) (Nat.le_refl _) (.int .u32 cv)
          have q1 := (hbl.cell (p := ⟨w.heap.size + 1, 1, none⟩) (by show w.heap.size + 1 < w.heap.size + 1 + 1 + 1; omega)).trans k1
          rw [show b32 = 4294967296 from rfl] at hcv
          have HST := Lib.hid hdone
          have HOW := Lib.hid hown2
          have HBL := Lib.hid hbl2
          have j1 : ((k : Int) + (l : Int)).toNat = k + l := by omega
          have m1 : cv % 4294967296 = cv := by omega
          generalize zs'.getD (k + l) 0 = z at *
          clear hdone hown2 hbl2 hrow hown HR0 hxb hlen
          go_wp2
          go_roundw
          case rel => exact ⟨k + 1, _, by omega, by go_num, HOW.out, HST.out, HBL.out⟩
          case measure => simp [intOf]; omega
    · obtain rfl : n = k := by omega
      have hval := hr.val
      rw [HV1.out] at hval
      have hmag := Mag.trimmed hown hr.dig (Nat.le_refl _)
      rw [hval] at hmag
      have c : Calls Tryz.prog 400 #[.slice (some ⟨w.heap.size + 1 + 1 + 1, 0, none⟩) (n + m) (n + m)] wr.drew (RetMag (DG.dv b32 xs * DG.dv b32 ys) (n + m) wr.drew) := (c101 wr.drew zs hown.drew).mono fun e w' h => ⟨_, h.1, by rw [h.2]; exact hmag.drewN 1, by rw [h.2]; exact Below.refl _ _⟩
      clear c101
      have hbW := hbl
      clear hval hmag hr hown hbl k0 k1
      go_wp2
      have k0 : W3.cell? ⟨w.heap.size, 0, none⟩ = some (.bool true) := by rw [HW.out]; simp [go_sem]
      have j0 := (hbW.cell (p := ⟨w.heap.size, 0, none⟩) (by show w.heap.size < w.heap.size + 1 + 1 + 1; omega)).trans k0
      have k1 : W3.cell? ⟨w.heap.size + 1, 0, none⟩ = some (.bool true) := by rw [HW.out]; simp [go_sem]
      have j1 := (hbW.cell (p := ⟨w.heap.size + 1, 0, none⟩) (by show w.heap.size + 1 < w.heap.size + 1 + 1 + 1; omega)).trans k1
      refine Lex.wp_region_lex (fun w' => w'.cell? ⟨w.heap.size, 0, none⟩ = some (.bool true) ∧ w'.cell? ⟨w.heap.size + 1, 0, none⟩ = some (.bool true)) (fun j => j != 8)
        [(0, true), (1, true), (2, true), (3, true), (4, true), (5, true), (6, false), (7, false), (8, false)]
        (by kernel_rfl) (by kernel_rfl) (by kernel_rfl) (by kernel_rfl) ⟨j0, j1⟩ ?_
      iterate 6 (refine Lex.lex_take (v := ?_) rfl rfl (by rfl) (fun _ hS => ?_) ?_; rotate_left 1; (focus (go_split_ands; go_simp; with_reducible rfl)); simp only [List.setIfInBounds_toArray, List.set_cons_zero, List.set_cons_succ])
      refine Lex.lex_do rfl ?_
      have hb0 : Below (w.heap.size + 1 + 1 + 1) W3 wr.drew := hbW.drew
      generalize wr.drew = V0 at *
      clear hbW j0 j1
      go_wp2_with fail
      refine (c).mono ?_
      rintro e V1 ⟨v1, rfl, hm1, hn1⟩
      have hb1 : Below (w.heap.size + 1 + 1 + 1) W3 V1 := hb0.trans (hn1.mono (by have := hb0.size; omega))
      have j0 := (hb1.cell (p := ⟨w.heap.size, 0, none⟩) (by show w.heap.size < w.heap.size + 1 + 1 + 1; omega)).trans k0
      have j1 := (hb1.cell (p := ⟨w.heap.size + 1, 0, none⟩) (by show w.heap.size + 1 < w.heap.size + 1 + 1 + 1; omega)).trans k1
      clear hb0 hn1
      go_wp2_with fail
      refine Lex.lexQ_normal (fun _ => ⟨j0, j1⟩) ?_
      refine Lex.lex_do rfl ?_
      clear j0 j1
      clear c
      replace c79 := c79 _ _ hm1
      go_wp2_with fail
      refine (c79).mono ?_
      rintro e V2 ⟨v2, rfl, hm2, hn2⟩
      have hb2 : Below (w.heap.size + 1 + 1 + 1) W3 V2 := hb1.trans (hn2.mono (by have := hb1.size; omega))
      have j0 := (hb2.cell (p := ⟨w.heap.size, 0, none⟩) (by show w.heap.size < w.heap.size + 1 + 1 + 1; omega)).trans k0
      have j1 := (hb2.cell (p := ⟨w.heap.size + 1, 0, none⟩) (by show w.heap.size + 1 < w.heap.size + 1 + 1 + 1; omega)).trans k1
      clear hb1 hn2
      go_wp2_with fail
      refine Lex.lexQ_normal (fun _ => ⟨j0, j1⟩) ?_
      refine Lex.lex_do rfl ?_
      clear j0 j1
      obtain ⟨neg1, A1, n1, c1, m1, rfl, hmm, hzz, hpos1, _, _⟩ := hm2.open'
      have hR := HE _ hb2
      have HST := Lib.hid (hm2.stored (u0 := .bool neg1) (u1 := .slice A1 n1 c1) hR)
      have q0 : V2.cell? ⟨w.heap.size + 1 + 1, 0, none⟩ = some (.bool false) := by simp [World.cell?, hR]
      have f0 : V2.frozen? ⟨w.heap.size + 1 + 1, 0, none⟩ = false := by simp [World.frozen?, hR]
      have q1 : V2.cell? ⟨w.heap.size + 1 + 1, 1, none⟩ = some (.slice none 0 0) := by simp [World.cell?, hR]
      have f1 : V2.frozen? ⟨w.heap.size + 1 + 1, 1, none⟩ = false := by simp [World.frozen?, hR]
      have HB := Lib.hid (HB3.out.trans (hb2.mono (by omega)))
      clear hzz hpos1 hmm hm2 hb2 hR k0 k1
      go_wp2_with fail
      refine Lex.lexQ_normal (fun h => absurd h (by decide)) ?_
      refine Lex.lex_nil ?_
      go_wp2
      refine bodyPost_ret (v := .agg #[.bool neg1, .slice A1 n1 c1]) (by simp [results, Tryz.results332, go_sem, q0, q1]) rfl ⟨_, rfl, HST.out, ?_⟩
      exact (HB.out.setCell (by show w.heap.size ≤ w.heap.size + 1 + 1; omega) _).setCell (by show w.heap.size ≤ w.heap.size + 1 + 1; omega) _

theorem mul_any {w : World} {u v : Value} {x y : Int} {N M : Nat} (hu : IsZ w u x N) (hv : IsZ w v y M) (hN : N ≤ 400) (hM : M ≤ 400) :
    Calls Tryz.prog 332 #[u, v] w (RetZ (x * y) (N + M) w) := by
  obtain ⟨na, mu, a, rfl, ha, hx, _⟩ := hu
  obtain ⟨nb, mv, b, rfl, hb, hy, _⟩ := hv
  obtain ⟨A, n, c, xs, rfl, h2, h3, h4, h5, h6, h7, h8, rfl, h10⟩ := ha
  obtain ⟨B, m, d, ys, rfl, k2, k3, k4, k5, k6, k7, k8, rfl, k10⟩ := hb
  have more : ∀ e w' z, RetZ z (n + m) w e w' → RetZ z (N + M) w e w' := fun e w' z ⟨v, g1, g2, g3⟩ => ⟨v, g1, g2.more (by omega), g3⟩
  subst hx hy
  cases na <;> cases nb
  · exact (mul_false_false A n c B m d xs ys w h6 k6 h2 k2 (by omega) (by omega) h7 k7).mono fun e w' h => more e w' _ h
  · refine (mul_false_true A n c B m d xs ys w h6 k6 h2 k2 (by omega) (by omega) h7 k7).mono fun e w' h => more e w' _ ?_
    simpa [Int.mul_neg, Int.neg_mul] using h
  · refine (mul_true_false A n c B m d xs ys w h6 k6 h2 k2 (by omega) (by omega) h7 k7).mono fun e w' h => more e w' _ ?_
    simpa [Int.mul_neg, Int.neg_mul] using h
  · refine (mul_true_true A n c B m d xs ys w h6 k6 h2 k2 (by omega) (by omega) h7 k7).mono fun e w' h => more e w' _ ?_
    simpa [Int.mul_neg, Int.neg_mul] using h

end Go.Proofs.YtbkgbkmpalbdpaaGreatDoor.G
