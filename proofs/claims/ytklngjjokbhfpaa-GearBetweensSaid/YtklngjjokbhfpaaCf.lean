/- ref's Mul, times (printed by gencf.py). -/
import Derived.Test.YtklngjjokbhfpaaCe
namespace Go.Proofs.Ytklngjjokbhfpaa
open Go.RowKit

theorem Own.cellE {e : TypeId} {κ : IntKind} {w : World} {base n g cap : Nat} {xs : List Int} (h : Own e κ w base (.slice (some ⟨g, 0, none⟩) n cap) n xs) {k : Nat} (hk : k < xs.length) : w.cell? ⟨g, k, none⟩ = some (.int κ (xs.getD k 0)) := by
  rw [h.get hk]
  simp [List.getD, hk]
theorem mrow_set {zs : List Int} {k : Nat} : zs.getD k 0 = 0 → ∀ j, (zs.set k 0).getD j 0 = zs.getD j 0 := by
  intro h j
  by_cases hj : k = j
  · subst hj
    rcases Nat.lt_or_ge k zs.length with hl | hl
    · rw [DG.getD_set_eq _ _ _ hl, h]
    · rw [List.set_eq_of_length_le hl]
  · exact DG.getD_set_ne _ _ _ _ hj

theorem field_Z1 (b : Bool) (A : Option Addr) (n c : Nat) (W : World) : (Instr.field 33 (.agg #[.bool b, .slice A n c]) 1).run Try.prog W = .ok (.slice A n c) W := by kernel_rfl
def sgnd (b : Bool) (z : Int) : Int := if b then -z else z

set_option maxRecDepth 100000 in
set_option maxHeartbeats 1600000 in
theorem rmul_raw (na nb : Bool) (A : Option Addr) (n c : Nat) (B : Option Addr) (m d : Nat) (xs ys : List Int) (w : World) (hA : Ints .i64 w A xs) (hC : Ints .i64 w B ys) (hn : xs.length = n) (hm : ys.length = m) (hb1 : n ≤ 400) (hb2 : m ≤ 400) (hx : DG.Dig DG.b4 xs) (hy : DG.Dig DG.b4 ys) :
    Calls Try.prog 39 #[.agg #[.bool na, .slice A n c], .agg #[.bool nb, .slice B m d]] w (RetR (sgnd (na != nb) (DG.dv DG.b4 xs * DG.dv DG.b4 ys)) (n + m + 1) w) := by
  have HN := Lib.hid hn
  have HM := Lib.hid hm
  have hX := fun i => hx.getD DG.b4_one i
  have hY := fun i => hy.getD DG.b4_one i
  have hv1 := DG.ds_getD DG.b4 xs n (by omega)
  have hv2 := DG.ds_getD DG.b4 ys m (by omega)
  obtain ⟨X, hXd⟩ : ∃ X : Nat → Int, X = fun i => xs.getD i 0 := ⟨_, rfl⟩
  obtain ⟨Y, hYd⟩ : ∃ Y : Nat → Int, Y = fun i => ys.getD i 0 := ⟨_, rfl⟩
  rw [← hXd] at hv1
  rw [← hYd] at hv2
  have hX' : ∀ i, 0 ≤ X i ∧ X i < DG.b4 := fun i => by rw [hXd]; exact hX i
  have hY' : ∀ i, 0 ≤ Y i ∧ Y i < DG.b4 := fun i => by rw [hYd]; exact hY i
  have HV1 := Lib.hid hv1
  have HV2 := Lib.hid hv2
  have HXD := Lib.hid hXd
  have HYD := Lib.hid hYd
  have HX2 := Lib.hid hX'
  have HY2 := Lib.hid hY'
  have cl : ∀ (W : World) (zs : List Int) (h : Own 3 .i64 W (w.heap.size + 1 + 1 + 1) (.slice (some ⟨w.heap.size + 1 + 1 + 1, 0, none⟩) (n + m + 1) (n + m + 1)) (n + m + 1) zs) (hd : DG.Dig DG.b4 zs) (hl : zs.length = (n + m + 1)), Calls Try.prog 68 #[.agg #[.bool (na != nb), .slice (some ⟨w.heap.size + 1 + 1 + 1, 0, none⟩) (n + m + 1) (n + m + 1)]] W (RetR (sgnd (na != nb) (DG.dv DG.b4 zs)) zs.length W) := fun W zs h hd hl => lean_any (na != nb) W (Digs.own h hd) (by omega)
  have CL := Lib.hid cl
  clear cl
  clear hx hy hX hY hXd hYd hX' hY' hn hm hv1 hv2
  obtain ⟨pna, rfl⟩ : ∃ p : Bool × Unit, na = p.1 := ⟨(na, ()), rfl⟩
  obtain ⟨pnb, rfl⟩ : ∃ p : Bool × Unit, nb = p.1 := ⟨(nb, ()), rfl⟩
  have hB : Below w.heap.size w (((w.alloc (.cells #[.bool pna.1, .slice A n c] 33)).alloc (.cells #[.bool pnb.1, .slice B m d] 33)).alloc (.cells #[.bool false, .slice none 0 0] 33)) := (((Below.refl _ _).alloc (Nat.le_refl _) _).alloc (by simp) _).alloc (by simp; omega) _
  obtain ⟨W3, hW3⟩ : ∃ W3, W3 = ((w.alloc (.cells #[.bool pna.1, .slice A n c] 33)).alloc (.cells #[.bool pnb.1, .slice B m d] 33)).alloc (.cells #[.bool false, .slice none 0 0] 33) := ⟨_, rfl⟩
  have hs3 : W3.heap.size = w.heap.size + 1 + 1 + 1 := by rw [hW3]; simp
  have HE : ∀ W, Below (w.heap.size + 1 + 1 + 1) W3 W → W.heap[w.heap.size + 1 + 1]? = some (.cells #[.bool false, .slice none 0 0] 33 (0, 0)) := fun W hb => res_rcell rfl rfl (hW3 ▸ hb)
  rw [← hW3] at hB
  have HB3 := Lib.hid hB
  clear hB
  have HW := Lib.hid hW3
  have hbW := Below.refl (w.heap.size + 1 + 1 + 1) W3
  have B1 : Two W3 w.heap.size (.bool pna.1) (.slice A n c) 33 := by rw [hW3]; exact ((Two.newAt w _ _ _ _ rfl).alloc _).alloc _
  have B2 : Two W3 (w.heap.size + 1) (.bool pnb.1) (.slice B m d) 33 := by rw [hW3]; exact (Two.newAt _ _ _ _ _ (by simp)).alloc _
  have HB1 := Lib.hid B1
  have HB2 := Lib.hid B2
  clear B1 B2
  go_enter Try.func39, Try.ntmps39
  go_wp2_with (at_make; refine wpList_makeK elemI _ rfl _ _ rfl (w.heap.size + 1 + 1 + 1) _ _ (n + m + 1) rfl rfl (by omega) (by omega) (by omega) (by simp) ?_)
  rw [← hW3]
  clear hW3
  intro w1 hown1 hgrow1
  have hb1 := hbW.grown hgrow1 (Nat.le_of_eq hs3.symm) (by intro k hk; cases hk)
  clear hgrow1 hbW
  have hr1 := DG.MRows.start DG.b4_one X (DG.dv DG.b4 ys) (n + m + 1) m
  go_wp2
  go_loopw [6] (fun i wr => ∃ (k : Nat) (zs : List Int), k ≤ n ∧ i = .int .i64 k ∧ Own 3 .i64 wr (w.heap.size + 1 + 1 + 1) (.slice (some ⟨w.heap.size + 1 + 1 + 1, 0, none⟩) (n + m + 1) (n + m + 1)) (n + m + 1) zs ∧ DG.MRows DG.b4 X (DG.dv DG.b4 ys) (n + m + 1) m k zs ∧ Below (w.heap.size + 1 + 1 + 1) W3 wr) (fun i _ => n - (intOf i).toNat)
  case atStart => exact ⟨0, _, Nat.zero_le _, rfl, hown1, hr1, hb1⟩
  case round =>
    clear hown1 hb1 hr1
    obtain ⟨k, zs, hk, rfl, hown, hr, hbl⟩ := hrel
    have q1 := (HB1.out.below hbl (by omega)).cell1
    by_cases hlt : k < n
    · have hxk : ∀ h, xs[k]'h = X k := fun h => by rw [HXD.out]; simp [List.getD, h]
      have HXK := Lib.hid hxk
      have hxb := HX2.out k
      have hrow := hr.row DG.b4_two (X k) Y
      have HR0 := Lib.hid hr
      clear hr hxk
      generalize hxv : X k = x at *
      have HXV := Lib.hid hxv
      clear hxv
      go_wp2
      clear q1
      go_loopw [7, 8] (fun cc j wr => ∃ (l : Nat) (zs' : List Int) (cv : Int), j = .int .i64 l ∧ cc = .int .i64 cv ∧ Own 3 .i64 wr (w.heap.size + 1 + 1 + 1) (.slice (some ⟨w.heap.size + 1 + 1 + 1, 0, none⟩) (n + m + 1) (n + m + 1)) (n + m + 1) zs' ∧ Below (w.heap.size + 1 + 1 + 1) W3 wr ∧ ((l ≤ m ∧ DG.MRow DG.b4 (DG.dv DG.b4 zs) x Y (n + m + 1) k m l zs' cv) ∨ (l = m + 1 ∧ cv = 0 ∧ DG.MRows DG.b4 X (DG.dv DG.b4 ys) (n + m + 1) m (k + 1) zs'))) (fun _ j _ => m + 1 - (intOf j).toNat)
      case atStart => exact ⟨0, zs, 0, rfl, rfl, hown, hbl, .inl ⟨Nat.zero_le _, hrow⟩⟩
      case round =>
        clear hown hrow hbl
        obtain ⟨l, zs', cv, rfl, rfl, hown, hbl, hcase⟩ := hrel
        have q1 := (HB1.out.below hbl (by omega)).cell1
        have q2 := (HB2.out.below hbl (by omega)).cell1
        rcases hcase with ⟨hl, hrow⟩ | ⟨rfl, rfl, hrows⟩
        · by_cases hlm : l < m
          · obtain ⟨b1, o1, rfl, hl1, hc1⟩ := (hA.below (HB3.out.trans (hbl.mono (by omega)))).get (k := k) (by rw [HN.out]; exact hlt)
            obtain ⟨b2, o2, rfl, hl2, hc2⟩ := (hC.below (HB3.out.trans (hbl.mono (by omega)))).get (k := l) (by rw [HM.out]; exact hlm)
            have hyl : ys[l]'(by rw [HM.out]; exact hlm) = Y l := by rw [HYD.out]; simp [List.getD, show l < ys.length by rw [HM.out]; exact hlm]
            rw [HXK.out] at hc1
            rw [hyl] at hc2
            have hyb := HY2.out l
            have hlen := hrow.len
            have hcv := hrow.car
            have hzb := hrow.dig.getD DG.b4_one (k + l)
            have hco : wr.cell? ⟨w.heap.size + 1 + 1 + 1, k + l, none⟩ = some (.int .i64 (zs'.getD (k + l) 0)) := hown.cellE (by omega)
            have ht := DG.mul_t DG.b4_two hxb hyb hzb hcv
            have hstep := hrow.step DG.b4_two (by omega) hlm hxb hyb
            have hfz := hown.frozen (k + l)
            rw [show DG.b4 = 10000 from rfl] at hyb hcv hzb ht
            rw [show DG.b4 = 10000 from rfl] at hxb
            generalize hz : zs'.getD (k + l) 0 = z at *
            generalize Y l = y at *
            have t1 : Int.tmod (z + cv + x * y) 10000 = (x * y + z + cv) % DG.b4 := by rw [Int.tmod_eq_emod_of_nonneg (by omega), show z + cv + x * y = x * y + z + cv by omega]; rfl
            have t2 : Int.tdiv (z + cv + x * y) 10000 = (x * y + z + cv) / DG.b4 := by rw [Int.tdiv_eq_ediv_of_nonneg (by omega), show z + cv + x * y = x * y + z + cv by omega]; rfl
            have hq1 : 0 ≤ (x * y + z + cv) % DG.b4 ∧ (x * y + z + cv) % DG.b4 < 10000 := ⟨Int.emod_nonneg _ (by decide), Int.emod_lt_of_pos _ (by decide)⟩
            have hq2 : 0 ≤ (x * y + z + cv) / DG.b4 ∧ (x * y + z + cv) / DG.b4 ≤ 100000000 := by
              rw [show DG.b4 = 10000 from rfl]; omega
            generalize (x * y + z + cv) % DG.b4 = r at *
            generalize (x * y + z + cv) / DG.b4 = r2 at *
            have hown2 := hown.set (k + l) r
            have hbl2 := hbl.setCell (p := ⟨w.heap.size + 1 + 1 + 1, k + l, none⟩) (Nat.le_refl _) (.int .i64 r)
            have HST := Lib.hid hstep
            have HOW := Lib.hid hown2
            have HBL := Lib.hid hbl2
            have j1 : ((k : Int) + (l : Int)).toNat = k + l := by omega
            have w0 : IntKind.i64.wrap (z + cv) = z + cv := IntWalk.i64_in _ (by omega)
            have w1 : IntKind.i64.wrap (x * y) = x * y := IntWalk.i64_in _ (by omega)
            have w2 : IntKind.i64.wrap (z + cv + x * y) = z + cv + x * y := IntWalk.i64_in _ (by omega)
            have w3 : IntKind.i64.wrap r = r := IntWalk.i64_in _ (by omega)
            have w4 : IntKind.i64.wrap r2 = r2 := IntWalk.i64_in _ (by omega)
            have d1 : decide ((l : Int) < (m : Int)) = true := decide_eq_true (by omega)
            clear hstep hown2 hbl2 hrow hown hyl ht hlen hz hbl
            go_wp2
            go_quiet (fail)
            go_wp2
            go_roundw
            case rel => exact ⟨l + 1, _, _, by go_num, rfl, HOW.out.drewN nq, HBL.out.drewN nq, .inl ⟨by omega, HST.out⟩⟩
            case measure => simp [intOf]; omega
          · obtain rfl : l = m := by omega
            have hcv := hrow.car
            have d1 : decide ((l : Int) < (l : Int)) = false := decide_eq_false (by omega)
            by_cases hcp : 0 < cv
            · have hlen := hrow.len
              have hz0 := hrow.nil (k + l) (Nat.le_refl _)
              have hco : wr.cell? ⟨w.heap.size + 1 + 1 + 1, k + l, none⟩ = some (.int .i64 0) := by rw [← hz0]; exact hown.cellE (by omega)
              have hfz := hown.frozen (k + l)
              have hdone := DG.MRow.done HR0.out (HXV.out ▸ hrow) (by omega) HV2.out
              have hown2 := hown.set (k + l) cv
              have hbl2 := hbl.setCell (p := ⟨w.heap.size + 1 + 1 + 1, k + l, none⟩) (Nat.le_refl _) (.int .i64 cv)
              rw [show DG.b4 = 10000 from rfl] at hcv
              have HST := Lib.hid hdone
              have HOW := Lib.hid hown2
              have HBL := Lib.hid hbl2
              have j1 : ((k : Int) + (l : Int)).toNat = k + l := by omega
              have d2 : decide (0 < cv) = true := decide_eq_true hcp
              have t1 : Int.tmod cv 10000 = cv := by rw [Int.tmod_eq_emod_of_nonneg (by omega)]; omega
              have t2 : Int.tdiv cv 10000 = 0 := by rw [Int.tdiv_eq_ediv_of_nonneg (by omega)]; omega
              clear hdone hown2 hbl2 hrow hown hxb hlen hz0 hbl hcp
              go_wp2
              go_roundw
              case rel => exact ⟨l + 1, _, _, by go_num, rfl, HOW.out, HBL.out, .inr ⟨rfl, rfl, HST.out⟩⟩
              case measure => simp [intOf]
            · obtain rfl : cv = 0 := by omega
              have hdone := DG.MRow.done0 HR0.out (HXV.out ▸ hrow) HV2.out
              have HST := Lib.hid hdone
              have HOW := Lib.hid hown
              have HBL := Lib.hid hbl
              clear hdone hrow hown hxb hbl hcp hcv
              go_wp2
              go_roundw
              case rel => exact ⟨k + 1, _, by omega, by go_num, HOW.out, HST.out, HBL.out⟩
              case measure => simp [intOf]; omega
        · have HST := Lib.hid hrows
          have HOW := Lib.hid hown
          have HBL := Lib.hid hbl
          have d1 : decide (((m + 1 : Nat) : Int) < (m : Int)) = false := decide_eq_false (by omega)
          clear hrows hown hxb hbl
          go_wp2
          go_roundw
          case rel => exact ⟨k + 1, _, by omega, by go_num, HOW.out, HST.out, HBL.out⟩
          case measure => simp [intOf]; omega
    · obtain rfl : n = k := by omega
      have hval := hr.val
      rw [HV1.out] at hval
      have c := CL.out wr zs hown hr.dig hr.len
      rw [hval, hr.len] at c
      have b1 := HB1.out.below hbl (by omega)
      have b2 := HB2.out.below hbl (by omega)
      have k0 := b1.cell0
      have k1 := b2.cell0
      clear CL hval hr hown b1 b2
      have HBL := Lib.hid hbl
      clear hbl
      go_wp2_with fail
      refine c.mono ?_
      rintro e V1 ⟨v1, rfl, hm1, hn1⟩
      clear c
      have hb1 : Below (w.heap.size + 1 + 1 + 1) W3 V1 := HBL.out.trans (hn1.mono (by have := HBL.out.size; omega))
      clear hn1
      obtain ⟨neg1, A1, n1, c1, m1, rfl, hmm, hzz, hpos1, _, _⟩ := hm1.open'
      have hR := HE _ hb1
      have HST := Lib.hid (hm1.stored (u0 := .bool neg1) (u1 := .slice A1 n1 c1) hR)
      have q0 : V1.cell? ⟨w.heap.size + 1 + 1, 0, none⟩ = some (.bool false) := by simp [World.cell?, hR]
      have f0 : V1.frozen? ⟨w.heap.size + 1 + 1, 0, none⟩ = false := by simp [World.frozen?, hR]
      have q1 : V1.cell? ⟨w.heap.size + 1 + 1, 1, none⟩ = some (.slice none 0 0) := by simp [World.cell?, hR]
      have f1 : V1.frozen? ⟨w.heap.size + 1 + 1, 1, none⟩ = false := by simp [World.frozen?, hR]
      have HB := Lib.hid (HB3.out.trans (hb1.mono (by omega)))
      clear hzz hpos1 hmm hm1 hb1 hR
      go_wp2
      refine bodyPost_ret (v := .agg #[.bool neg1, .slice A1 n1 c1]) (by simp [results, Try.results39, go_sem, q0, q1]) rfl ⟨_, rfl, HST.out, ?_⟩
      exact (HB.out.setCell (by show w.heap.size ≤ w.heap.size + 1 + 1; omega) _).setCell (by show w.heap.size ≤ w.heap.size + 1 + 1; omega) _

theorem rmul_any {w : World} {u v : Value} {x y : Int} {N M : Nat} (hu : IsR w u x N) (hv : IsR w v y M) (hN : N ≤ 400) (hM : M ≤ 400) :
    Calls Try.prog 39 #[u, v] w (RetR (x * y) (N + M + 1) w) := by
  obtain ⟨na, mu, a, rfl, ha, hx, _⟩ := hu
  obtain ⟨nb, mv, b, rfl, hb, hy, _⟩ := hv
  obtain ⟨A, n, c, xs, rfl, h2, h3, h4, h5, h6, h7, h8, rfl, h10⟩ := ha
  obtain ⟨B, m, d, ys, rfl, k2, k3, k4, k5, k6, k7, k8, rfl, k10⟩ := hb
  refine (rmul_raw na nb A n c B m d xs ys w h6 k6 h2 k2 (by omega) (by omega) h7 k7).mono fun e w' ⟨v, g1, g2, g3⟩ => ⟨v, g1, ?_, g3⟩
  have e : x * y = sgnd (na != nb) (DG.dv DG.b4 xs * DG.dv DG.b4 ys) := by
    subst hx hy
    cases na <;> cases nb <;> simp [sgnd, Int.mul_neg, Int.neg_mul]
  rw [e]
  exact g2.more (by omega)

set_option maxRecDepth 100000 in
set_option maxHeartbeats 1600000 in
theorem rtimes_any {w : World} {v : Value} {x : Int} {N : Nat} (d : Nat) (hv : RMag w v x N) (hN : N ≤ 300) (hd : d ≤ 10000) :
    Calls Try.prog 87 #[v, .int .i64 d] w (fun e w' => ∃ v', e = .returned v' ∧ RMag w' v' (x * d) (N + 6) ∧ Below w.heap.size w w') := by
  have hnn := hv.nonneg
  have ci := rint_any d w ⟨by omega, by omega⟩
  have cm : ∀ W v1, Below w.heap.size w W → IsR W v1 (d : Int) 5 → Calls Try.prog 39 #[.agg #[.bool false, v], v1] W (RetR (x * d) (N + 5 + 1) W) := fun W v1 hb h1 => rmul_any ⟨false, v, x, rfl, hv.below hb, rfl, fun h => by cases h⟩ h1 (by omega) (by omega)
  have cl : ∀ W v1 (b : Bool), IsD W v1 (x * d) (N + 6) → Calls Try.prog 68 #[.agg #[.bool b, v1]] W (RetR (if b then -(x * d) else x * d) (N + 6) W) := fun W v1 b h => lean_isd b W h (by omega)
  have hpos : 0 ≤ x * (d : Int) := Int.mul_nonneg hnn (by omega)
  obtain ⟨A, n, c, rfl, -, -⟩ := hv.open'
  generalize x * (d : Int) = z at *
  clear hv hnn
  go_enter Try.func87, Try.ntmps87
  go_wp2_with fail
  refine ci.mono ?_
  rintro e W1 ⟨v1, rfl, h1, b1⟩
  have c2 := cm _ _ b1 h1
  have HB1 := Lib.hid b1
  clear ci cm h1 b1
  go_wp2_with fail
  refine c2.mono ?_
  rintro e W2 ⟨v2, rfl, h2, b2⟩
  obtain ⟨neg, mag, m, rfl, hm, hz, hp⟩ := h2
  have hneg : neg = false := by
    cases neg with
    | false => rfl
    | true => have := hp rfl; simp at hz; omega
  subst hneg
  simp at hz
  subst hz
  have c3 := cl _ mag false hm.isD
  have HB2 := Lib.hid (HB1.out.trans (b2.mono HB1.out.size))
  obtain ⟨A2, n2, c2', rfl, -, -⟩ := hm.open'
  clear c2 cl hm b2 hp
  go_wp2_with fail
  refine c3.mono ?_
  rintro e W3 ⟨v3, rfl, h3, b3⟩
  have HB3 := Lib.hid (HB2.out.trans (b3.mono HB2.out.size))
  simp only [Bool.false_eq_true, if_false] at h3
  obtain ⟨neg3, mag3, m3, rfl, hm3, hz3, hp3⟩ := h3
  have hneg : neg3 = false := by
    cases neg3 with
    | false => rfl
    | true => have := hp3 rfl; simp at hz3; omega
  subst hneg
  simp at hz3
  subst hz3
  obtain ⟨A3, n3, c3', rfl, -, -⟩ := hm3.open'
  have HM3 := Lib.hid hm3
  clear c3 b3 hm3 hp3
  have hfd := fun W => field_Z1 false A3 n3 c3' W
  go_wp2
  go_ret
  exact ⟨_, rfl, HM3.out, HB3.out⟩
end Go.Proofs.Ytklngjjokbhfpaa
