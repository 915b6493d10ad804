/- Texts Cf Cg in one. -/
import Derived.Test.YtklngjjokbhfpaaGreatDoorCe
import Derived.Deep.DeepCutAuto
namespace Go.Proofs.YtklngjjokbhfpaaGreatDoor
open Go.RowKit

theorem Own.cellE {e : TypeId} {κ : IntKind} {w : World} {base n g cap : Nat} {xs : List Int} (h : Own e κ w base (.slice (some ⟨g, 0, none⟩) n cap) n xs) {k : Nat} (hk : k < xs.length) : w.cell? ⟨g, k, none⟩ = some (.int κ (xs.getD k 0)) := by
  rw [h.get hk]
  simp [List.getD, hk]
theorem field_Z1 (b : Bool) (A : Option Addr) (n c : Nat) (W : World) : (Instr.field 43 (.agg #[.bool b, .slice A n c]) 1).run Tryz.prog W = .ok (.slice A n c) W := by kernel_rfl
def sgnd (b : Bool) (z : Int) : Int := if b then -z else z

set_option maxRecDepth 100000 in
set_option maxHeartbeats 1600000 in
theorem rmul_raw (na nb : Bool) (A : Option Addr) (n c : Nat) (B : Option Addr) (m d : Nat) (xs ys : List Int) (w : World) (hA : Ints .i64 w A xs) (hC : Ints .i64 w B ys) (hn : xs.length = n) (hm : ys.length = m) (hb1 : n ≤ 400) (hb2 : m ≤ 400) (hx : DG.Dig DG.b4 xs) (hy : DG.Dig DG.b4 ys) :
    Calls Tryz.prog 53 #[.agg #[.bool na, .slice A n c], .agg #[.bool nb, .slice B m d]] w (RetR (sgnd (na != nb) (DG.dv DG.b4 xs * DG.dv DG.b4 ys)) (n + m + 1) w) := by
  have HN := Lib.hid hn
  have HM := Lib.hid hm
  have hX := fun i => hx.getD DG.b4_one i
  have hY := fun i => hy.getD DG.b4_one i
  have hv1 := DG.ds_getD DG.b4 xs n (by omega)
  have hv2 := DG.ds_getD DG.b4 ys m (by omega)
  obtain ⟨X, hXd⟩ : ∃ X : Nat → Int, X = fun i => xs.getD i 0 := ⟨_, rfl⟩
  obtain ⟨Y, hYd⟩ : ∃ Y : Nat → Int, Y = fun i => ys.getD i 0 := ⟨_, rfl⟩
  rw [← hXd] at hv1
  rw [← hYd] at hv2
  have hX' : ∀ i, 0 ≤ X i ∧ X i < DG.b4 := fun i => by rw [hXd]; exact hX i
  have hY' : ∀ i, 0 ≤ Y i ∧ Y i < DG.b4 := fun i => by rw [hYd]; exact hY i
  have HV1 := Lib.hid hv1
  have HV2 := Lib.hid hv2
  have HXD := Lib.hid hXd
  have HYD := Lib.hid hYd
  have HX2 := Lib.hid hX'
  have HY2 := Lib.hid hY'
  have cl : ∀ (W : World) (zs : List Int) (h : Own 3 .i64 W (w.heap.size + 1 + 1 + 1) (.slice (some ⟨w.heap.size + 1 + 1 + 1, 0, none⟩) (n + m + 1) (n + m + 1)) (n + m + 1) zs) (hd : DG.Dig DG.b4 zs) (hl : zs.length = (n + m + 1)), Calls Tryz.prog 45 #[.agg #[.bool (na != nb), .slice (some ⟨w.heap.size + 1 + 1 + 1, 0, none⟩) (n + m + 1) (n + m + 1)]] W (RetR (sgnd (na != nb) (DG.dv DG.b4 zs)) zs.length W) := fun W zs h hd hl => lean_any (na != nb) W (Digs.own h hd) (by omega)
  have CL := Lib.hid cl
  clear cl
  clear hx hy hX hY hXd hYd hX' hY' hn hm hv1 hv2
  obtain ⟨pna, rfl⟩ : ∃ p : Bool × Unit, na = p.1 := ⟨(na, ()), rfl⟩
  obtain ⟨pnb, rfl⟩ : ∃ p : Bool × Unit, nb = p.1 := ⟨(nb, ()), rfl⟩
  have hB : Below w.heap.size w (((w.alloc (.cells #[.bool pna.1, .slice A n c] 43)).alloc (.cells #[.bool pnb.1, .slice B m d] 43)).alloc (.cells #[.bool false, .slice none 0 0] 43)) := (((Below.refl _ _).alloc (Nat.le_refl _) _).alloc (by simp) _).alloc (by simp; omega) _
  obtain ⟨W3, hW3⟩ : ∃ W3, W3 = ((w.alloc (.cells #[.bool pna.1, .slice A n c] 43)).alloc (.cells #[.bool pnb.1, .slice B m d] 43)).alloc (.cells #[.bool false, .slice none 0 0] 43) := ⟨_, rfl⟩
  have hs3 : W3.heap.size = w.heap.size + 1 + 1 + 1 := by rw [hW3]; simp
  have HE : ∀ W, Below (w.heap.size + 1 + 1 + 1) W3 W → W.heap[w.heap.size + 1 + 1]? = some (.cells #[.bool false, .slice none 0 0] 43 (0, 0)) := fun W hb => res_rcell rfl rfl (hW3 ▸ hb)
  rw [← hW3] at hB
  have HB3 := Lib.hid hB
  clear hB
  have HW := Lib.hid hW3
  have hbW := Below.refl (w.heap.size + 1 + 1 + 1) W3
  have B1 : Two W3 w.heap.size (.bool pna.1) (.slice A n c) 43 := by rw [hW3]; exact ((Two.newAt w _ _ _ _ rfl).alloc _).alloc _
  have B2 : Two W3 (w.heap.size + 1) (.bool pnb.1) (.slice B m d) 43 := by rw [hW3]; exact (Two.newAt _ _ _ _ _ (by simp)).alloc _
  have HB1 := Lib.hid B1
  have HB2 := Lib.hid B2
  clear B1 B2
  go_enter Tryz.func53, Tryz.ntmps53
  go_wp2_with (at_make; refine wpList_makeK elemI _ rfl _ _ rfl (w.heap.size + 1 + 1 + 1) _ _ (n + m + 1) rfl rfl (by omega) (by omega) (by omega) (by simp) ?_)
  rw [← hW3]
  clear hW3
  intro w1 hown1 hgrow1
  have hb1 := hbW.grown hgrow1 (Nat.le_of_eq hs3.symm) (by intro k hk; cases hk)
  clear hgrow1 hbW
  have hr1 := DG.MRows.start DG.b4_one X (DG.dv DG.b4 ys) (n + m + 1) m
  go_wp2
  go_loopw [6] (fun i wr => ∃ (k : Nat) (zs : List Int), k ≤ n ∧ i = .int .i64 k ∧ Own 3 .i64 wr (w.heap.size + 1 + 1 + 1) (.slice (some ⟨w.heap.size + 1 + 1 + 1, 0, none⟩) (n + m + 1) (n + m + 1)) (n + m + 1) zs ∧ DG.MRows DG.b4 X (DG.dv DG.b4 ys) (n + m + 1) m k zs ∧ Below (w.heap.size + 1 + 1 + 1) W3 wr) (fun i _ => n - (intOf i).toNat)
  case atStart => exact ⟨0, _, Nat.zero_le _, rfl, hown1, hr1, hb1⟩
  case round =>
    clear hown1 hb1 hr1
    obtain ⟨k, zs, hk, rfl, hown, hr, hbl⟩ := hrel
    have q1 := (HB1.out.below hbl (by omega)).cell1
    by_cases hlt : k < n
    · have hxk : ∀ h, xs[k]'h = X k := fun h => by rw [HXD.out]; simp [List.getD, h]
      have HXK := Lib.hid hxk
      have hxb := HX2.out k
      have hrow := hr.row DG.b4_two (X k) Y
      have HR0 := Lib.hid hr
      clear hr hxk
      generalize hxv : X k = x at *
      have HXV := Lib.hid hxv
      clear hxv
      go_wp2
      clear q1
      go_loopw [7, 8] (fun cc j wr => ∃ (l : Nat) (zs' : List Int) (cv : Int), j = .int .i64 l ∧ cc = .int .i64 cv ∧ Own 3 .i64 wr (w.heap.size + 1 + 1 + 1) (.slice (some ⟨w.heap.size + 1 + 1 + 1, 0, none⟩) (n + m + 1) (n + m + 1)) (n + m + 1) zs' ∧ Below (w.heap.size + 1 + 1 + 1) W3 wr ∧ ((l ≤ m ∧ DG.MRow DG.b4 (DG.dv DG.b4 zs) x Y (n + m + 1) k m l zs' cv) ∨ (l = m + 1 ∧ cv = 0 ∧ DG.MRows DG.b4 X (DG.dv DG.b4 ys) (n + m + 1) m (k + 1) zs'))) (fun _ j _ => m + 1 - (intOf j).toNat)
      case atStart => exact ⟨0, zs, 0, rfl, rfl, hown, hbl, .inl ⟨Nat.zero_le _, hrow⟩⟩
      case round =>
        clear hown hrow hbl
        obtain ⟨l, zs', cv, rfl, rfl, hown, hbl, hcase⟩ := hrel
        have q1 := (HB1.out.below hbl (by omega)).cell1
        have q2 := (HB2.out.below hbl (by omega)).cell1
        rcases hcase with ⟨hl, hrow⟩ | ⟨rfl, rfl, hrows⟩
        · by_cases hlm : l < m
          · obtain ⟨b1, o1, rfl, hl1, hc1⟩ := (hA.below (HB3.out.trans (hbl.mono (by omega)))).get (k := k) (by rw [HN.out]; exact hlt)
            obtain ⟨b2, o2, rfl, hl2, hc2⟩ := (hC.below (HB3.out.trans (hbl.mono (by omega)))).get (k := l) (by rw [HM.out]; exact hlm)
            have hyl : ys[l]'(by rw [HM.out]; exact hlm) = Y l := by rw [HYD.out]; simp [List.getD, show l < ys.length by rw [HM.out]; exact hlm]
            rw [HXK.out] at hc1
            rw [hyl] at hc2
            have hyb := HY2.out l
            have hlen := hrow.len
            have hcv := hrow.car
            have hzb := hrow.dig.getD DG.b4_one (k + l)
            have hco : wr.cell? ⟨w.heap.size + 1 + 1 + 1, k + l, none⟩ = some (.int .i64 (zs'.getD (k + l) 0)) := hown.cellE (by omega)
            have ht := DG.mul_t DG.b4_two hxb hyb hzb hcv
            have hstep := hrow.step DG.b4_two (by omega) hlm hxb hyb
            have hfz := hown.frozen (k + l)
            rw [show DG.b4 = 10000 from rfl] at hyb hcv hzb ht
            rw [show DG.b4 = 10000 from rfl] at hxb
            generalize hz : zs'.getD (k + l) 0 = z at *
            generalize Y l = y at *
            have t1 : Int.tmod (z + cv + x * y) 10000 = (x * y + z + cv) % DG.b4 := by rw [Int.tmod_eq_emod_of_nonneg (by omega), show z + cv + x * y = x * y + z + cv by omega]; rfl
            have t2 : Int.tdiv (z + cv + x * y) 10000 = (x * y + z + cv) / DG.b4 := by rw [Int.tdiv_eq_ediv_of_nonneg (by omega), show z + cv + x * y = x * y + z + cv by omega]; rfl
            have hq1 : 0 ≤ (x * y + z + cv) % DG.b4 ∧ (x * y + z + cv) % DG.b4 < 10000 := ⟨Int.emod_nonneg _ (by decide), Int.emod_lt_of_pos _ (by decide)⟩
            have hq2 : 0 ≤ (x * y + z + cv) / DG.b4 ∧ (x * y + z + cv) / DG.b4 ≤ 100000000 := by
              rw [show DG.b4 = 10000 from rfl]; omega
            generalize (x * y + z + cv) % DG.b4 = r at *
            generalize (x * y + z + cv) / DG.b4 = r2 at *
            have hown2 := hown.set (k + l) r
            have hbl2 := hbl.setCell (p := ⟨w.heap.size + 1 + 1 + 1, k + l, none⟩) (Nat.le_refl _) (.int .i64 r)
            have HST := Lib.hid hstep
            have HOW := Lib.hid hown2
            have HBL := Lib.hid hbl2
            have j1 : ((k : Int) + (l : Int)).toNat = k + l := by omega
            have w0 : IntKind.i64.wrap (z + cv) = z + cv := IntWalk.i64_in _ (by omega)
            have w1 : IntKind.i64.wrap (x * y) = x * y := IntWalk.i64_in _ (by omega)
            have w2 : IntKind.i64.wrap (z + cv + x * y) = z + cv + x * y := IntWalk.i64_in _ (by omega)
            have w3 : IntKind.i64.wrap r = r := IntWalk.i64_in _ (by omega)
            have w4 : IntKind.i64.wrap r2 = r2 := IntWalk.i64_in _ (by omega)
            have d1 : decide ((l : Int) < (m : Int)) = true := decide_eq_true (by omega)
            clear hstep hown2 hbl2 hrow hown hyl ht hlen hz hbl
            go_wp2
            go_quiet (fail)
            go_wp2
            go_roundw
            case rel => exact ⟨l + 1, _, _, by go_num, rfl, HOW.out.drewN nq, HBL.out.drewN nq, .inl ⟨by omega, HST.out⟩⟩
            case measure => simp [intOf]; omega
          · obtain rfl : l = m := by omega
            have hcv := hrow.car
            have d1 : decide ((l : Int) < (l : Int)) = false := decide_eq_false (by omega)
            by_cases hcp : 0 < cv
            · have hlen := hrow.len
              have hz0 := hrow.nil (k + l) (Nat.le_refl _)
              have hco : wr.cell? ⟨w.heap.size + 1 + 1 + 1, k + l, none⟩ = some (.int .i64 0) := by rw [← hz0]; exact hown.cellE (by omega)
              have hfz := hown.frozen (k + l)
              have hdone := DG.MRow.done HR0.out (HXV.out ▸ hrow) (by omega) HV2.out
              have hown2 := hown.set (k + l) cv
              have hbl2 := hbl.setCell (p := ⟨w.heap.size + 1 + 1 + 1, k + l, none⟩) (Nat.le_refl _) (.int .i64 cv)
              rw [show DG.b4 = 10000 from rfl] at hcv
              have HST := Lib.hid hdone
              have HOW := Lib.hid hown2
              have HBL := Lib.hid hbl2
              have j1 : ((k : Int) + (l : Int)).toNat = k + l := by omega
              have d2 : decide (0 < cv) = true := decide_eq_true hcp
              have t1 : Int.tmod cv 10000 = cv := by rw [Int.tmod_eq_emod_of_nonneg (by omega)]; omega
              have t2 : Int.tdiv cv 10000 = 0 := by rw [Int.tdiv_eq_ediv_of_nonneg (by omega)]; omega
              clear hdone hown2 hbl2 hrow hown hxb hlen hz0 hbl hcp
              go_wp2
              go_roundw
              case rel => exact ⟨l + 1, _, _, by go_num, rfl, HOW.out, HBL.out, .inr ⟨rfl, rfl, HST.out⟩⟩
              case measure => simp [intOf]
            · obtain rfl : cv = 0 := by omega
              have hdone := DG.MRow.done0 HR0.out (HXV.out ▸ hrow) HV2.out
              have HST := Lib.hid hdone
              have HOW := Lib.hid hown
              have HBL := Lib.hid hbl
              clear hdone hrow hown hxb hbl hcp hcv
              go_wp2
              go_roundw
              case rel => exact ⟨k + 1, _, by omega, by go_num, HOW.out, HST.out, HBL.out⟩
              case measure => simp [intOf]; omega
        · have HST := Lib.hid hrows
          have HOW := Lib.hid hown
          have HBL := Lib.hid hbl
          have d1 : decide (((m + 1 : Nat) : Int) < (m : Int)) = false := decide_eq_false (by omega)
          clear hrows hown hxb hbl
          go_wp2
          go_roundw
          case rel => exact ⟨k + 1, _, by omega, by go_num, HOW.out, HST.out, HBL.out⟩
          case measure => simp [intOf]; omega
    · obtain rfl : n = k := by omega
      have hval := hr.val
      rw [HV1.out] at hval
      have c := CL.out wr zs hown hr.dig hr.len
      rw [hval, hr.len] at c
      have b1 := HB1.out.below hbl (by omega)
      have b2 := HB2.out.below hbl (by omega)
      have k0 := b1.cell0
      have k1 := b2.cell0
      clear CL hval hr hown b1 b2
      have HBL := Lib.hid hbl
      clear hbl
      go_wp2_with fail
      refine c.mono ?_
      rintro e V1 ⟨v1, rfl, hm1, hn1⟩
      clear c
      have hb1 : Below (w.heap.size + 1 + 1 + 1) W3 V1 := HBL.out.trans (hn1.mono (by have := HBL.out.size; omega))
      clear hn1
      obtain ⟨neg1, A1, n1, c1, m1, rfl, hmm, hzz, hpos1, _, _⟩ := hm1.open'
      have hR := HE _ hb1
      have HST := Lib.hid (hm1.stored (u0 := .bool neg1) (u1 := .slice A1 n1 c1) hR)
      have q0 : V1.cell? ⟨w.heap.size + 1 + 1, 0, none⟩ = some (.bool false) := by simp [World.cell?, hR]
      have f0 : V1.frozen? ⟨w.heap.size + 1 + 1, 0, none⟩ = false := by simp [World.frozen?, hR]
      have q1 : V1.cell? ⟨w.heap.size + 1 + 1, 1, none⟩ = some (.slice none 0 0) := by simp [World.cell?, hR]
      have f1 : V1.frozen? ⟨w.heap.size + 1 + 1, 1, none⟩ = false := by simp [World.frozen?, hR]
      have HB := Lib.hid (HB3.out.trans (hb1.mono (by omega)))
      clear hzz hpos1 hmm hm1 hb1 hR
      go_wp2
      refine bodyPost_ret (v := .agg #[.bool neg1, .slice A1 n1 c1]) (by simp [results, Tryz.results53, go_sem, q0, q1]) rfl ⟨_, rfl, HST.out, ?_⟩
      exact (HB.out.setCell (by show w.heap.size ≤ w.heap.size + 1 + 1; omega) _).setCell (by show w.heap.size ≤ w.heap.size + 1 + 1; omega) _

theorem rmul_any {w : World} {u v : Value} {x y : Int} {N M : Nat} (hu : IsR w u x N) (hv : IsR w v y M) (hN : N ≤ 400) (hM : M ≤ 400) :
    Calls Tryz.prog 53 #[u, v] w (RetR (x * y) (N + M + 1) w) := by
  obtain ⟨na, mu, a, rfl, ha, hx, _⟩ := hu
  obtain ⟨nb, mv, b, rfl, hb, hy, _⟩ := hv
  obtain ⟨A, n, c, xs, rfl, h2, h3, h4, h5, h6, h7, h8, rfl, h10⟩ := ha
  obtain ⟨B, m, d, ys, rfl, k2, k3, k4, k5, k6, k7, k8, rfl, k10⟩ := hb
  refine (rmul_raw na nb A n c B m d xs ys w h6 k6 h2 k2 (by omega) (by omega) h7 k7).mono fun e w' ⟨v, g1, g2, g3⟩ => ⟨v, g1, ?_, g3⟩
  have e : x * y = sgnd (na != nb) (DG.dv DG.b4 xs * DG.dv DG.b4 ys) := by
    subst hx hy
    cases na <;> cases nb <;> simp [sgnd, Int.mul_neg, Int.neg_mul]
  rw [e]
  exact g2.more (by omega)

set_option maxRecDepth 100000 in
set_option maxHeartbeats 1600000 in
theorem rtimes_any {w : World} {v : Value} {x : Int} {N : Nat} (d : Nat) (hv : RMag w v x N) (hN : N ≤ 300) (hd : d ≤ 10000) :
    Calls Tryz.prog 47 #[v, .int .i64 d] w (fun e w' => ∃ v', e = .returned v' ∧ RMag w' v' (x * d) (N + 6) ∧ Below w.heap.size w w') := by
  have hnn := hv.nonneg
  have ci := rint_any d w ⟨by omega, by omega⟩
  have cm : ∀ W v1, Below w.heap.size w W → IsR W v1 (d : Int) 5 → Calls Tryz.prog 53 #[.agg #[.bool false, v], v1] W (RetR (x * d) (N + 5 + 1) W) := fun W v1 hb h1 => rmul_any ⟨false, v, x, rfl, hv.below hb, rfl, fun h => by cases h⟩ h1 (by omega) (by omega)
  have cl : ∀ W v1 (b : Bool), IsD W v1 (x * d) (N + 6) → Calls Tryz.prog 45 #[.agg #[.bool b, v1]] W (RetR (if b then -(x * d) else x * d) (N + 6) W) := fun W v1 b h => lean_isd b W h (by omega)
  have hpos : 0 ≤ x * (d : Int) := Int.mul_nonneg hnn (by omega)
  obtain ⟨A, n, c, rfl, -, -⟩ := hv.open'
  generalize x * (d : Int) = z at *
  clear hv hnn
  go_enter Tryz.func47, Tryz.ntmps47
  go_wp2_with fail
  refine ci.mono ?_
  rintro e W1 ⟨v1, rfl, h1, b1⟩
  have c2 := cm _ _ b1 h1
  have HB1 := Lib.hid b1
  clear ci cm h1 b1
  go_wp2_with fail
  refine c2.mono ?_
  rintro e W2 ⟨v2, rfl, h2, b2⟩
  obtain ⟨neg, mag, m, rfl, hm, hz, hp⟩ := h2
  have hneg : neg = false := by
    cases neg with
    | false => rfl
    | true => have := hp rfl; simp at hz; omega
  subst hneg
  simp at hz
  subst hz
  have c3 := cl _ mag false hm.isD
  have HB2 := Lib.hid (HB1.out.trans (b2.mono HB1.out.size))
  obtain ⟨A2, n2, c2', rfl, -, -⟩ := hm.open'
  clear c2 cl hm b2 hp
  go_wp2_with fail
  refine c3.mono ?_
  rintro e W3 ⟨v3, rfl, h3, b3⟩
  have HB3 := Lib.hid (HB2.out.trans (b3.mono HB2.out.size))
  simp only [Bool.false_eq_true, if_false] at h3
  obtain ⟨neg3, mag3, m3, rfl, hm3, hz3, hp3⟩ := h3
  have hneg : neg3 = false := by
    cases neg3 with
    | false => rfl
    | true => have := hp3 rfl; simp at hz3; omega
  subst hneg
  simp at hz3
  subst hz3
  obtain ⟨A3, n3, c3', rfl, -, -⟩ := hm3.open'
  have HM3 := Lib.hid hm3
  clear c3 b3 hm3 hp3
  have hfd := fun W => field_Z1 false A3 n3 c3' W
  go_wp2
  go_ret
  exact ⟨_, rfl, HM3.out, HB3.out⟩
end Go.Proofs.YtklngjjokbhfpaaGreatDoor

namespace Go.Proofs.YtklngjjokbhfpaaGreatDoor
open Go.RowKit

theorem IsR.bound {w : World} {v : Value} {z : Int} {N : Nat} (h : IsR w v z N) : -(DG.b4 ^ N) < z ∧ z < DG.b4 ^ N := by
  obtain ⟨neg, mag, m, rfl, hm, hz, -⟩ := h
  obtain ⟨A, n, c, xs, h1, h2, h3, h4, h5, h6, h7, h8, rfl, h10⟩ := hm
  have a1 := DG.dv_lt DG.b4_one xs h7
  have a2 := DG.dv_nonneg DG.b4_one xs h7
  have a3 := DG.pow_mono DG.b4_one xs.length N (by omega)
  cases neg with
  | false => simp at hz; omega
  | true => simp at hz; omega
theorem IsR.pos' {w : World} {v : Value} {z : Int} {N : Nat} (h : IsR w v z N) (hz : 0 ≤ z) : ∃ (A : Option Addr) (n c : Nat), v = .agg #[.bool false, .slice A n c] ∧ RMag w (.slice A n c) z N := by
  obtain ⟨neg, A, n, c, m, rfl, hm, h1, h2, -⟩ := h.open'
  have hneg : neg = false := by
    cases neg with
    | false => rfl
    | true => have := h2 rfl; simp at h1; omega
  subst hneg
  simp at h1
  subst h1
  exact ⟨A, n, c, rfl, hm⟩
theorem At.setOther {w : World} {A : Option Addr} {vs : List Value} (h : At w A vs) (p : Addr) (u : Value) (hp : ∀ a, A = some a → a.block ≠ p.block) : At (w.setCell p u) A vs := by
  rcases h with h | ⟨b, off, hA, hb, hc⟩
  · exact .inl h
  · exact .inr ⟨b, off, hA, by simpa [World.setCell] using hb, fun j v hv => (World.cell?_of_block (Below.heap_setCell w p u b (hp _ hA))).trans (hc j v hv)⟩
theorem RMag.setOther {w : World} {A : Option Addr} {n c : Nat} {z : Int} {N : Nat} (h : RMag w (.slice A n c) z N) (p : Addr) (u : Value) (hp : ∀ a, A = some a → a.block ≠ p.block) : RMag (w.setCell p u) (.slice A n c) z N := by
  obtain ⟨A', n', c', xs, h1, h2, h3, h4, h5, h6, h7⟩ := h
  cases h1
  exact ⟨A, n, c, xs, rfl, h2, h3, h4, h5, At.setOther h6 p u hp, h7⟩
theorem lean_fresh {v : Value} {xs : List Int} (w : World) (hv : Digs w v xs) (hb : xs.length ≤ 1000) :
    Calls Tryz.prog 45 #[.agg #[.bool false, v]] w (RetRF (DG.dv DG.b4 xs) xs.length w) := by
  simpa using lean_false w hv hb
theorem dig_append {x : Int} {rs : List Int} (hx : 0 ≤ x ∧ x < DG.b4) (hr : DG.Dig DG.b4 rs) : DG.Dig DG.b4 (x :: rs) := DG.Dig.cons.2 ⟨hx, hr⟩
theorem dv_app1 (x : Int) (rs : List Int) : DG.dv DG.b4 (x :: rs) = x + 10000 * DG.dv DG.b4 rs := rfl
theorem less_by {R y : Int} (h : R < y) {x : Int} (hx : x < 10000) : x + 10000 * R < 10000 * y := by omega

theorem IsR.drew {w : World} {v : Value} {z : Int} {N : Nat} (h : IsR w v z N) : IsR w.drew v z N := h

/-- The two results of DivMod. -/
def RetDM (x y : Int) (N M : Nat) (w : World) (e : Ending) (w' : World) : Prop := ∃ v1 v2, e = .returned (.tuple #[v1, v2]) ∧ IsR w' v1 (x / y) N ∧ IsR w' v2 (x % y) M ∧ Below w.heap.size w w'

set_option maxRecDepth 100000 in
set_option maxHeartbeats 3200000 in
theorem rdivmod_false (A : Option Addr) (n c : Nat) (B : Option Addr) (m d : Nat) (xs : List Int) (y : Int) (M : Nat) (w : World) (hA : Ints .i64 w A xs) (hn : xs.length = n) (hy : RMag w (.slice B m d) y M) (hb1 : n ≤ 300) (hb2 : M ≤ 300) (hx : DG.Dig DG.b4 xs) (hy0 : 0 < y) :
    Calls Tryz.prog 24 #[.agg #[.bool false, .slice A n c], .agg #[.bool false, .slice B m d]] w (RetDM (DG.dv DG.b4 xs) y (n + 1) (M + 3) w) := by
  have HN := Lib.hid hn
  have HX := Lib.hid (fun i => hx.getD DG.b4_one i)
  have HXG := Lib.hid (fun (i : Nat) (h : i < xs.length) => (show xs[i]'h = xs.getD i 0 by simp [List.getD, h]))
  have hyb : y < DG.b4 ^ M := by
    have := (show IsR w (.agg #[.bool false, .slice B m d]) y M from ⟨false, _, y, rfl, hy, rfl, fun h => by cases h⟩).bound
    exact this.2
  have HYB := Lib.hid hyb
  have HPX := Lib.hid (DG.dv_nonneg DG.b4_one xs hx)
  have HPL := Lib.hid (show DG.dv DG.b4 xs < DG.b4 ^ n by rw [← hn]; exact DG.dv_lt DG.b4_one xs hx)
  have HIB := Lib.hid (show IsR w (.agg #[.bool false, .slice B m d]) y M from ⟨false, _, y, rfl, hy, rfl, fun h => by cases h⟩)
  have HY := Lib.hid hy
  have HY0 := Lib.hid hy0
  clear hn hx hy hyb hy0
  obtain ⟨W4, hW4⟩ : ∃ W4, W4 = (((w.alloc (.cells #[.bool false, .slice A n c] 43)).alloc (.cells #[.bool false, .slice B m d] 43)).alloc (.cells #[.bool false, .slice none 0 0] 43)).alloc (.cells #[.bool false, .slice none 0 0] 43) := ⟨_, rfl⟩
  have hs4 : W4.heap.size = w.heap.size + 1 + 1 + 1 + 1 := by rw [hW4]; simp
  have hB : Below w.heap.size w W4 := by rw [hW4]; exact ((((Below.refl _ _).alloc (Nat.le_refl _) _).alloc (by simp) _).alloc (by simp; omega) _).alloc (by simp; omega) _
  have B1 : Two W4 w.heap.size (.bool false) (.slice A n c) 43 := by rw [hW4]; exact (((Two.newAt w _ _ _ _ rfl).alloc _).alloc _).alloc _
  have B2 : Two W4 (w.heap.size + 1) (.bool false) (.slice B m d) 43 := by rw [hW4]; exact ((Two.newAt _ _ _ _ _ (by simp)).alloc _).alloc _
  have B3 : Two W4 (w.heap.size + 1 + 1) (.bool false) (.slice none 0 0) 43 := by rw [hW4]; exact (Two.newAt _ _ _ _ _ (by simp)).alloc _
  have B4 : Two W4 (w.heap.size + 1 + 1 + 1) (.bool false) (.slice none 0 0) 43 := by rw [hW4]; exact Two.newAt _ _ _ _ _ (by simp)
  have HB := Lib.hid hB
  have HB1 := Lib.hid B1
  have HB2 := Lib.hid B2
  have HB3 := Lib.hid B3
  have HB4 := Lib.hid B4
  have HS4 := Lib.hid hs4
  clear hB B1 B2 B3 B4
  go_enter Tryz.func24, Tryz.ntmps24
  go_wp2_with (at_make; refine wpList_makeK elemI _ rfl _ _ rfl (w.heap.size + 1 + 1 + 1 + 1) _ _ n rfl rfl (by omega) (by omega) (by omega) (by simp) ?_)
  rw [← hW4]
  clear hW4
  intro w1 hown1 hgrow1
  have hb1 := (Below.refl (w.heap.size + 1 + 1 + 1 + 1) W4).grown hgrow1 (Nat.le_of_eq hs4.symm) (by intro k hk; cases hk)
  clear hgrow1
  have hst := DG.DRow.start xs HY0.out
  rw [HN.out] at hst
  have e0 : decide ((0 : Int) ≤ (n : Int) - 1) = decide (0 < n) := by apply decide_eq_decide.2; omega
  have hown2 := hown1.alloc (.cells #[] 3)
  have hb2 := hb1.alloc (by have := hown1.lt (w.heap.size + 1 + 1 + 1 + 1) rfl; omega) (.cells #[] 3)
  have hsz1 := hown1.lt (w.heap.size + 1 + 1 + 1 + 1) rfl
  have q1 := (HB1.out.below hb2 (by omega)).cell1
  clear e0 hs4
  go_wp2
  clear q1
  go_loopw [7, 8] (fun rv i wr => ∃ (k : Nat) (qs : List Int) (A2 : Option Addr) (n2 c2 : Nat) (R : Int), k ≤ n ∧ i = .int .i64 ((k : Int) - 1) ∧ rv = .slice A2 n2 c2 ∧ (∀ a, A2 = some a → w.heap.size + 1 + 1 + 1 + 1 < a.block) ∧ RMag wr (.slice A2 n2 c2) R M ∧ Own 3 .i64 wr (w.heap.size + 1 + 1 + 1 + 1) (.slice (some ⟨w.heap.size + 1 + 1 + 1 + 1, 0, none⟩) n n) n qs ∧ DG.DRow xs y k qs R ∧ Below (w.heap.size + 1 + 1 + 1 + 1) W4 wr) (fun _ i _ => (intOf i + 1).toNat)
  case atStart =>
    refine ⟨n, _, some ⟨w1.heap.size, 0, none⟩, 0, 0, 0, Nat.le_refl _, rfl, rfl, ?_, ?_, hown2, hst, hb2⟩
    · intro a ha; cases ha; exact hsz1.2
    · exact ⟨_, 0, 0, [], rfl, rfl, Nat.le_refl _, by simp [maxLen], (by intro e; cases e), .inl rfl, DG.Dig.nil _, fun h => absurd rfl h, rfl, Nat.zero_le _⟩
  case round =>
    clear hown1 hb1 hown2 hb2 hst hsz1
    obtain ⟨k, qs, A2, n2, c2, R, hk, rfl, rfl, hA2b, hrm, hown, hdr, hbl⟩ := hrel
    cases k with
    | zero =>
      have hdone := hdr.done
      have hdig := hdr.dig
      have hlen := hdr.len
      rw [HN.out] at hlen
      have hrest := hdr.rest
      have q1 := (HB1.out.below hbl (by omega)).cell0
      have c1 : Calls Tryz.prog 45 #[.agg #[.bool false, (.slice (some ⟨w.heap.size + 1 + 1 + 1 + 1, 0, none⟩) n n)]] wr (RetR (DG.dv DG.b4 qs) n wr) := by
        have := lean_any false wr (Digs.own hown hdig) (by omega)
        rw [hlen] at this
        simpa using this
      have c2' : ∀ W, Below wr.heap.size wr W → Calls Tryz.prog 45 #[.agg #[.bool false, .slice A2 n2 c2]] W (RetR R M W) := fun W hb => by
        have := lean_isd false W (hrm.below hb).isD (by omega)
        simpa using this
      have HDN := Lib.hid hdone
      have HRS := Lib.hid hrest
      clear hdr hown hrm hA2b hdig hlen hdone hrest
      generalize DG.dv DG.b4 qs = zq at *
      have d0 : decide ((0 : Int) ≤ ((0 : Nat) : Int) - 1) = false := rfl
      go_wp2_with fail
      refine c1.mono ?_
      rintro e V1 ⟨v1, rfl, hz1, hb1⟩
      have c3 := c2' V1 hb1
      have hbl1 := hbl.trans (hb1.mono (by have := hbl.size; have := HS4.out; omega))
      clear c1 c2'
      go_wp2_with fail
      refine c3.mono ?_
      rintro e V2 ⟨v2, rfl, hz2, hb2⟩
      have hbl2 := hbl1.trans (hb2.mono (by have := hbl1.size; have := HS4.out; omega))
      have hz1' := hz1.below hb2
      have hsz2 : w.heap.size + 1 + 1 + 1 + 1 ≤ V2.heap.size := by have := hbl2.size; have := HS4.out; omega
      clear c3 hz1 hb1 hb2 hbl hbl1
      obtain ⟨A6, n6, c6, rfl, hm2⟩ := hz2.pos' HRS.out.1
      obtain ⟨neg1, A5, n5, c5, m5, rfl, hm5, hz5, hp5, -, -⟩ := hz1'.open'
      have hn0 : n6 = 0 ↔ R = 0 := by
        obtain ⟨A', n', c', e', -, h⟩ := hm2.open'
        cases e'; exact h
      clear hm5 hz5 hp5
      obtain ⟨p1, rfl⟩ : ∃ p : Bool × Unit, neg1 = p.1 := ⟨(neg1, ()), rfl⟩
      obtain ⟨W5, hW5⟩ : ∃ W5, W5 = (V2.alloc (.cells #[.bool p1.1, .slice A5 n5 c5] 43)).alloc (.cells #[.bool false, .slice A6 n6 c6] 43) := ⟨_, rfl⟩
      have T1 : Two W5 V2.heap.size (.bool p1.1) (.slice A5 n5 c5) 43 := by rw [hW5]; exact (Two.newAt _ _ _ _ _ rfl).alloc _
      have T2 : Two W5 (V2.heap.size + 1) (.bool false) (.slice A6 n6 c6) 43 := by rw [hW5]; exact Two.newAt _ _ _ _ _ (by simp)
      have hbV : Below V2.heap.size V2 W5 := by rw [hW5]; exact ((Below.refl _ _).alloc (Nat.le_refl _) _).alloc (by simp) _
      have hbl5 : Below (w.heap.size + 1 + 1 + 1 + 1) W4 W5 := hbl2.trans (hbV.mono hsz2)
      have hs5 : W5.heap.size = V2.heap.size + 1 + 1 := by rw [hW5]; simp
      have z1 := hz1'.below hbV
      have z2 := hz2.below hbV
      have HT1 := Lib.hid T1
      have HT2 := Lib.hid T2
      have HBL := Lib.hid hbl5
      have HWX := Lib.hid (HB.out.trans (hbl5.mono (by omega)))
      have HZ1 := Lib.hid z1
      have HZ2 := Lib.hid z2
      have HS5 := Lib.hid hs5
      have HV2 := Lib.hid hsz2
      have HW5 := Lib.hid hW5
      have HN0 := Lib.hid hn0
      clear hz1' hz2 hm2 hbl2 hbV T1 T2 hbl5 z1 z2 hs5 hsz2 hn0
      have q2 := (HB1.out.below HBL.out (by omega)).cell0
      have q3 := HT2.out.cell1
      have q4 := HT2.out.cell0
      have q5 := HT1.out.cell0
      have q6 := HT1.out.cell1
      go_upto_region 15 with fail
      rw [← hW5]
      clear hW5
      go_wp2_with fail
      have R3 := HB3.out.below HBL.out (by omega)
      have R4 := HB4.out.below HBL.out (by omega)
      refine Lex.wp_region_lex (fun w' => w'.cell? ⟨V2.heap.size, 0, none⟩ = some (.bool p1.1) ∧ w'.cell? ⟨V2.heap.size, 1, none⟩ = some (.slice A5 n5 c5) ∧ w'.cell? ⟨V2.heap.size + 1, 0, none⟩ = some (.bool false) ∧ w'.cell? ⟨V2.heap.size + 1, 1, none⟩ = some (.slice A6 n6 c6)) (fun j => j != 3)
        [(0, true), (1, true), (2, false), (3, false)]
        (by kernel_rfl) (by kernel_rfl) (by kernel_rfl) (by kernel_rfl) ⟨HT1.out.cell0, HT1.out.cell1, HT2.out.cell0, HT2.out.cell1⟩ ?_
      iterate 2 (refine Lex.lex_take (v := ?_) rfl rfl (by rfl) (fun _ hS => ?_) ?_; rotate_left 1; (focus (go_split_ands; go_simp; with_reducible rfl)); simp only [List.setIfInBounds_toArray, List.set_cons_zero, List.set_cons_succ])
      refine Lex.lex_do rfl ?_
      have HR4 := Lib.hid R4
      have HR3 := Lib.hid R3
      have r0 := R3.cell0
      have r1 := R3.cell1
      have g0 := R3.free 0
      have g1 := R3.free 1
      have r2 := R4.cell0
      have r3 := R4.cell1
      have g2 := R4.free 0
      have g3 := R4.free 1
      clear R3 R4
      go_wp2_with fail
      have T1' := (HT1.out.setOther ⟨w.heap.size + 1 + 1, 0, none⟩ (.bool p1.1) (by have := HV2.out; simp; omega)).setOther ⟨w.heap.size + 1 + 1, 1, none⟩ (.slice A5 n5 c5) (by have := HV2.out; simp; omega)
      have T2' := (HT2.out.setOther ⟨w.heap.size + 1 + 1, 0, none⟩ (.bool p1.1) (by have := HV2.out; simp; omega)).setOther ⟨w.heap.size + 1 + 1, 1, none⟩ (.slice A5 n5 c5) (by have := HV2.out; simp; omega)
      refine Lex.lexQ_normal (fun _ => ⟨T1'.cell0, T1'.cell1, T2'.cell0, T2'.cell1⟩) ?_
      refine Lex.lex_do rfl ?_
      clear T1' T2'
      go_wp2_with fail
      refine Lex.lexQ_normal (fun h => absurd h (by decide)) ?_
      refine Lex.lex_nil ?_
      go_wp2
      refine bodyPost_ret (v := .tuple #[.agg #[.bool p1.1, .slice A5 n5 c5], .agg #[.bool false, .slice A6 n6 c6]]) (by simp [results, Tryz.results24, go_sem, r0, r1, r2, r3]) rfl ?_
      have hfin : Below w.heap.size w ((((W5).setCell ⟨w.heap.size + 1 + 1, 0, none⟩ (.bool p1.1)).setCell ⟨w.heap.size + 1 + 1, 1, none⟩ (.slice A5 n5 c5)).setCell ⟨w.heap.size + 1 + 1 + 1, 0, none⟩ (.bool false) |>.setCell ⟨w.heap.size + 1 + 1 + 1, 1, none⟩ (.slice A6 n6 c6)) := ((((HB.out.trans (HBL.out.mono (by omega))).setCell (by simp; omega) _).setCell (by simp; omega) _).setCell (by simp; omega) _).setCell (by simp; omega) _
      have y1 := (HZ1.out.stored (u0 := .bool p1.1) (u1 := .slice A5 n5 c5) HR3.out).stored (u0 := .bool false) (u1 := .slice A6 n6 c6) ((HR4.out.setOther ⟨w.heap.size + 1 + 1, 0, none⟩ (.bool p1.1) (by simp)).setOther ⟨w.heap.size + 1 + 1, 1, none⟩ (.slice A5 n5 c5) (by simp))
      have y2 := (HZ2.out.stored (u0 := .bool p1.1) (u1 := .slice A5 n5 c5) HR3.out).stored (u0 := .bool false) (u1 := .slice A6 n6 c6) ((HR4.out.setOther ⟨w.heap.size + 1 + 1, 0, none⟩ (.bool p1.1) (by simp)).setOther ⟨w.heap.size + 1 + 1, 1, none⟩ (.slice A5 n5 c5) (by simp))
      refine ⟨_, _, rfl, ?_, ?_, hfin.drew⟩
      · rw [← HDN.out.1]
        exact (y1.more (by omega)).drew
      · rw [← HDN.out.2]
        exact (y2.more (by omega)).drew
    | succ k =>
      rw [show ((k + 1 : Nat) : Int) - 1 = (k : Int) from by omega]
      have hsz : w.heap.size + 1 + 1 + 1 + 1 ≤ wr.heap.size := by have := hbl.size; have := HS4.out; omega
      have hgap : w.heap.size + 1 + 1 + 1 + 1 < wr.heap.size := (hown.lt (w.heap.size + 1 + 1 + 1 + 1) rfl).2
      obtain ⟨b1, o1, rfl, hl1, hc1⟩ := (hA.below (HB.out.trans (hbl.mono (by omega)))).get (k := k) (by rw [HN.out]; omega)
      rw [HXG.out k (by rw [HN.out]; omega)] at hc1
      have hxb := HX.out k
      have hrest := hdr.rest
      have hstep := fun lo a b c d => hdr.step (by rw [HN.out]; omega) (lo := lo) a b c d
      have HDR := Lib.hid hstep
      obtain ⟨A2', n2', c2', rs, e', hrl, hrc, hrm2, hr0, hrI, hrD, hrN, hrv, hrM⟩ := hrm
      cases e'
      rw [show DG.b4 = 10000 from rfl] at hxb
      have hR1b : xs.getD k 0 + 10000 * R < 10000 * y := less_by hrest.2 hxb.2
      have hR1p : 0 ≤ xs.getD k 0 + 10000 * R := by have := hrest.1; omega
      have hdg := dig_append (x := xs.getD k 0) hxb hrD
      have hdv := dv_app1 (xs.getD k 0) rs
      rw [hrv] at hdv
      have hlen : (xs.getD k 0 :: rs).length = n2 + 1 := by simp [hrl]
      have q1 := (HB1.out.below hbl (by omega)).cell1
      have HK := Lib.hid hk
      have i1 : (k : Int) < (n : Int) := by omega
      clear hdr hstep hrest hrv hrD hrN hk
      generalize xs.getD k 0 = x at *
      generalize hR1 : x + 10000 * R = R1 at *
      go_wp2_with (at_builtin; refine wpList_intsA _ rfl _ _ rfl wr.heap.size (.slice (some ⟨wr.heap.size, 0, none⟩) 1 1) 1 [x] rfl ?c1 A2 n2 c2 rs rfl ?c2 hrl (by omega) hr0 (by omega) ?c4 ?_)
      case c1 => exact own_lit 3 .i64 wr [x] 1 wr.heap.size rfl (Nat.le_refl _) (by omega)
      case c2 => exact Ints.below hrI ((Below.refl _ _).alloc (Nat.le_refl _) _)
      case c4 => simp
      intro v' w2 hown1 hgrow
      have hbA : Below wr.heap.size wr w2 := ((Below.refl wr.heap.size wr).alloc (Nat.le_refl _) (.cells #[.int .i64 x] 3)).grown hgrow (by simp) (by intro g hg; simp [Value.ownBlock] at hg; omega)
      have hown1 : Own 3 .i64 w2 wr.heap.size v' (n2 + 1) (x :: rs) := by simpa [Nat.add_comm] using hown1
      obtain ⟨A3, c3, rfl, -⟩ := hown1.sli.lieA hlen
      have cln := lean_fresh w2 (Digs.own hown1 hdg) (by omega)
      rw [hdv, hlen] at cln
      have hownA := hown.below hbA
      have hblA := hbl.trans (hbA.mono hsz)
      have hszA := hbA.size
      clear hgrow hrI hown hbl hown1 hbA hdg hdv hlen q1 hc1 hrl hr0
      go_wp2_with fail
      refine cln.mono ?_
      rintro e V1 ⟨v1, rfl, hz1, hb1, hfr1⟩
      clear cln
      obtain ⟨A4, n4, c4, rfl, hm1⟩ := hz1.pos' hR1p
      have hfr : ∀ a, A4 = some a → w.heap.size + 1 + 1 + 1 + 1 < a.block := fun a ha => by have := hfr1 _ _ _ _ a rfl ha; omega
      have hown1 := hownA.below hb1
      have hbl1 := hblA.trans (hb1.mono (by omega))
      have hsz1 : w.heap.size + 1 + 1 + 1 + 1 < V1.heap.size := by have := hb1.size; omega
      have HM1 := Lib.hid (hm1.more (show n2 + 1 ≤ M + 1 by omega))
      have HFR := Lib.hid hfr
      have HO1 := Lib.hid hown1
      have HBL1 := Lib.hid hbl1
      have hfd := fun W => field_Z1 false A4 n4 c4 W
      clear hz1 hfr1 hm1 hownA hblA hb1 hfr hown1 hbl1 hszA
      go_wp2
      clear hfd
      go_loopw [9, 10] (fun lo hi wr => ∃ l h : Nat, lo = .int .i64 l ∧ hi = .int .i64 h ∧ l < h ∧ h ≤ 10000 ∧ (l : Int) * y ≤ R1 ∧ R1 < (h : Int) * y ∧ Below V1.heap.size V1 wr) (fun lo hi _ => (intOf hi - intOf lo).toNat)
      case atStart => exact ⟨0, 10000, rfl, rfl, by omega, by omega, by simpa using hR1p, by simpa using hR1b, Below.refl _ _⟩
      case round =>
        obtain ⟨l, h, rfl, rfl, hlh, hh, hle, hlt, hbi⟩ := hrel
        have q2 := (HB2.out.below (HBL1.out.trans (hbi.mono (by omega))) (by omega)).cell1
        by_cases hgo : l + 1 < h
        · have d1 : decide ((1 : Int) < (h : Int) - (l : Int)) = true := decide_eq_true (by omega)
          have t1 : Int.tdiv ((l : Int) + (h : Int)) 2 = (((l + h) / 2 : Nat) : Int) := by rw [Int.tdiv_eq_ediv_of_nonneg (by omega)]; omega
          have m1 : l < (l + h) / 2 := by omega
          have m2 : (l + h) / 2 < h := by omega
          generalize (l + h) / 2 = mid at *
          have u1 : IntKind.i64.wrap (mid : Int) = mid := IntWalk.i64_in _ (by omega)
          have ct := rtimes_any mid (HY.out.below (HB.out.trans ((HBL1.out.trans (hbi.mono (by omega))).mono (by omega)))) (by omega) (by omega)
          have hRM := HM1.out.below hbi
          go_wp2_with fail
          refine ct.mono ?_
          rintro e V2 ⟨v2, rfl, hm2, hb2⟩
          obtain ⟨A5, n5, c5, rfl, -, -⟩ := hm2.open'
          have cs := rsizes_any hm2 (hRM.below hb2) (by omega) (by omega)
          have hbi2 := hbi.trans (hb2.mono hbi.size)
          clear ct hb2 hm2 hRM hbi
          by_cases hmid : (mid : Int) * y ≤ R1
          · have hsg : sgn (y * mid - R1) ≤ 0 := by rw [Int.mul_comm]; unfold sgn; split <;> (try split) <;> omega
            generalize sgn (y * mid - R1) = sg at *
            have d2 : decide (sg ≤ 0) = true := decide_eq_true hsg
            clear hsg
            go_wp2_with fail
            refine cs.mono ?_
            rintro e V3 ⟨rfl, z, rfl⟩
            clear cs
            go_wp2
            go_roundw
            case rel => exact ⟨mid, h, rfl, rfl, m2, hh, hmid, hlt, hbi2.drewN z⟩
            case measure => simp [intOf]; omega
          · have hsg : ¬ sgn (y * mid - R1) ≤ 0 := by rw [Int.mul_comm]; unfold sgn; split <;> (try split) <;> omega
            generalize sgn (y * mid - R1) = sg at *
            have d2 : decide (sg ≤ 0) = false := decide_eq_false hsg
            clear hsg
            go_wp2_with fail
            refine cs.mono ?_
            rintro e V3 ⟨rfl, z, rfl⟩
            clear cs
            go_wp2
            go_roundw
            case rel => exact ⟨l, mid, rfl, rfl, m1, by omega, hle, by omega, hbi2.drewN z⟩
            case measure => simp [intOf]; omega
        · obtain rfl : h = l + 1 := by omega
          have d1 : decide ((1 : Int) < ((l + 1 : Nat) : Int) - (l : Int)) = false := decide_eq_false (by omega)
          have d1' : decide ((1 : Int) < (l : Int) + 1 - (l : Int)) = false := decide_eq_false (by omega)
          have hnew := HDR.out (l : Int) (by omega) (by omega) hle (by push_cast at hlt; exact hlt)
          have hown := HO1.out.below hbi
          obtain ⟨y0, hco⟩ := hown.cell (k := k) (by omega)
          have hfz := hown.frozen k
          have hown2 := hown.set k (l : Int)
          have hbl := (HBL1.out.trans (hbi.mono (by omega))).setCell (p := ⟨w.heap.size + 1 + 1 + 1 + 1, k, none⟩) (Nat.le_refl _) (.int .i64 (l : Int))
          have hRM := (HM1.out.below hbi).setOther ⟨w.heap.size + 1 + 1 + 1 + 1, k, none⟩ (.int .i64 (l : Int)) (fun a ha => by have := HFR.out a ha; show a.block ≠ w.heap.size + 1 + 1 + 1 + 1; omega)
          have hszi := hbi.size
          clear hown
          obtain ⟨U, hU⟩ : ∃ U, U = wr.setCell ⟨w.heap.size + 1 + 1 + 1 + 1, k, none⟩ (.int .i64 (l : Int)) := ⟨_, rfl⟩
          have hszU : U.heap.size = wr.heap.size := by rw [hU]; simp [World.setCell]
          rw [← hU] at hown2 hbl hRM
          have q3 := (HB2.out.below hbl (by omega)).cell1
          have ct := rtimes_any l (HY.out.below (HB.out.trans (hbl.mono (by omega)))) (by omega) (by omega)
          have HBLU := Lib.hid hbl
          have HOU := Lib.hid hown2
          have HRM := Lib.hid hRM
          have HNEW := Lib.hid hnew
          have hyl : y * (l : Int) ≤ R1 := by rw [Int.mul_comm]; exact hle
          have hrlt : R1 - y * (l : Int) < y := by have := hnew.rest.2; rw [Int.mul_comm]; exact this
          clear hbl hown2 hRM hnew q2 hbi
          go_upto_region 13 with fail
          rw [← hU]
          clear hU hco hfz
          go_wp2_with fail
          refine ct.mono ?_
          rintro e V2 ⟨v2, rfl, hm2, hb2⟩
          obtain ⟨A5, n5, c5, rfl, -, -⟩ := hm2.open'
          have cl := rless_any (HRM.out.below hb2) hm2 (by omega) hyl
          have hbl2 := HBLU.out.trans (hb2.mono (by omega))
          have hown2 := HOU.out.below hb2
          have hsz2 := hb2.size
          clear ct hb2 hm2
          go_wp2_with fail
          refine cl.mono ?_
          rintro e V3 ⟨v3, zs3, rfl, hd3, hv3, hl3, hb3⟩
          have c3 := lean_fresh V3 hd3 (by omega)
          rw [hv3] at c3
          have hbl3 := hbl2.trans (hb3.mono (by omega))
          have hown3 := hown2.below hb3
          have hsz3 := hb3.size
          obtain ⟨A6, n6, c6, e6, -⟩ := hd3
          subst e6
          clear cl hb3 hv3 hbl2 hown2
          go_wp2_with fail
          refine c3.mono ?_
          rintro e V4 ⟨v4, rfl, hz4, hb4, hfr4⟩
          obtain ⟨A7, n7, c7, rfl, hm4⟩ := hz4.pos' (by omega)
          have hfd := fun W => field_Z1 false A7 n7 c7 W
          have hfr7 : ∀ a, A7 = some a → w.heap.size + 1 + 1 + 1 + 1 < a.block := fun a ha => by have := hfr4 _ _ _ _ a rfl ha; omega
          have hbl4 := hbl3.trans (hb4.mono (by omega))
          have hown4 := hown3.below hb4
          have hm4' := hm4.fit (k := M) (by have := HYB.out; omega)
          have HO4 := Lib.hid hown4
          have HM4 := Lib.hid hm4'
          have HB4' := Lib.hid hbl4
          have HF7 := Lib.hid hfr7
          clear c3 hz4 hb4 hfr4 hm4 hbl3 hown3 hown4 hm4' hbl4 hfr7
          go_wp2
          go_roundw
          case rel =>
            refine ⟨k, _, A7, n7, c7, R1 - y * (l : Int), by have := HK.out; omega, rfl, rfl, HF7.out, HM4.out, HO4.out, ?_, HB4'.out⟩
            have := HNEW.out
            rwa [Int.mul_comm (l : Int) y] at this
          case measure => simp [intOf]

set_option maxRecDepth 100000 in
set_option maxHeartbeats 3200000 in
theorem rdivmod_true (A : Option Addr) (n c : Nat) (B : Option Addr) (m d : Nat) (xs : List Int) (y : Int) (M : Nat) (w : World) (hA : Ints .i64 w A xs) (hn : xs.length = n) (hy : RMag w (.slice B m d) y M) (hb1 : n ≤ 300) (hb2 : M ≤ 300) (hx : DG.Dig DG.b4 xs) (hy0 : 0 < y) :
    Calls Tryz.prog 24 #[.agg #[.bool true, .slice A n c], .agg #[.bool false, .slice B m d]] w (RetDM (-DG.dv DG.b4 xs) y (n + 1) (M + 3) w) := by
  have HN := Lib.hid hn
  have HX := Lib.hid (fun i => hx.getD DG.b4_one i)
  have HXG := Lib.hid (fun (i : Nat) (h : i < xs.length) => (show xs[i]'h = xs.getD i 0 by simp [List.getD, h]))
  have hyb : y < DG.b4 ^ M := by
    have := (show IsR w (.agg #[.bool false, .slice B m d]) y M from ⟨false, _, y, rfl, hy, rfl, fun h => by cases h⟩).bound
    exact this.2
  have HYB := Lib.hid hyb
  have HPX := Lib.hid (DG.dv_nonneg DG.b4_one xs hx)
  have HPL := Lib.hid (show DG.dv DG.b4 xs < DG.b4 ^ n by rw [← hn]; exact DG.dv_lt DG.b4_one xs hx)
  have HIB := Lib.hid (show IsR w (.agg #[.bool false, .slice B m d]) y M from ⟨false, _, y, rfl, hy, rfl, fun h => by cases h⟩)
  have HY := Lib.hid hy
  have HY0 := Lib.hid hy0
  clear hn hx hy hyb hy0
  obtain ⟨W4, hW4⟩ : ∃ W4, W4 = (((w.alloc (.cells #[.bool true, .slice A n c] 43)).alloc (.cells #[.bool false, .slice B m d] 43)).alloc (.cells #[.bool false, .slice none 0 0] 43)).alloc (.cells #[.bool false, .slice none 0 0] 43) := ⟨_, rfl⟩
  have hs4 : W4.heap.size = w.heap.size + 1 + 1 + 1 + 1 := by rw [hW4]; simp
  have hB : Below w.heap.size w W4 := by rw [hW4]; exact ((((Below.refl _ _).alloc (Nat.le_refl _) _).alloc (by simp) _).alloc (by simp; omega) _).alloc (by simp; omega) _
  have B1 : Two W4 w.heap.size (.bool true) (.slice A n c) 43 := by rw [hW4]; exact (((Two.newAt w _ _ _ _ rfl).alloc _).alloc _).alloc _
  have B2 : Two W4 (w.heap.size + 1) (.bool false) (.slice B m d) 43 := by rw [hW4]; exact ((Two.newAt _ _ _ _ _ (by simp)).alloc _).alloc _
  have B3 : Two W4 (w.heap.size + 1 + 1) (.bool false) (.slice none 0 0) 43 := by rw [hW4]; exact (Two.newAt _ _ _ _ _ (by simp)).alloc _
  have B4 : Two W4 (w.heap.size + 1 + 1 + 1) (.bool false) (.slice none 0 0) 43 := by rw [hW4]; exact Two.newAt _ _ _ _ _ (by simp)
  have HB := Lib.hid hB
  have HB1 := Lib.hid B1
  have HB2 := Lib.hid B2
  have HB3 := Lib.hid B3
  have HB4 := Lib.hid B4
  have HS4 := Lib.hid hs4
  clear hB B1 B2 B3 B4
  go_enter Tryz.func24, Tryz.ntmps24
  go_wp2_with (at_make; refine wpList_makeK elemI _ rfl _ _ rfl (w.heap.size + 1 + 1 + 1 + 1) _ _ n rfl rfl (by omega) (by omega) (by omega) (by simp) ?_)
  rw [← hW4]
  clear hW4
  intro w1 hown1 hgrow1
  have hb1 := (Below.refl (w.heap.size + 1 + 1 + 1 + 1) W4).grown hgrow1 (Nat.le_of_eq hs4.symm) (by intro k hk; cases hk)
  clear hgrow1
  have hst := DG.DRow.start xs HY0.out
  rw [HN.out] at hst
  have e0 : decide ((0 : Int) ≤ (n : Int) - 1) = decide (0 < n) := by apply decide_eq_decide.2; omega
  have hown2 := hown1.alloc (.cells #[] 3)
  have hb2 := hb1.alloc (by have := hown1.lt (w.heap.size + 1 + 1 + 1 + 1) rfl; omega) (.cells #[] 3)
  have hsz1 := hown1.lt (w.heap.size + 1 + 1 + 1 + 1) rfl
  have q1 := (HB1.out.below hb2 (by omega)).cell1
  clear e0 hs4
  go_wp2
  clear q1
  go_loopw [7, 8] (fun rv i wr => ∃ (k : Nat) (qs : List Int) (A2 : Option Addr) (n2 c2 : Nat) (R : Int), k ≤ n ∧ i = .int .i64 ((k : Int) - 1) ∧ rv = .slice A2 n2 c2 ∧ (∀ a, A2 = some a → w.heap.size + 1 + 1 + 1 + 1 < a.block) ∧ RMag wr (.slice A2 n2 c2) R M ∧ Own 3 .i64 wr (w.heap.size + 1 + 1 + 1 + 1) (.slice (some ⟨w.heap.size + 1 + 1 + 1 + 1, 0, none⟩) n n) n qs ∧ DG.DRow xs y k qs R ∧ Below (w.heap.size + 1 + 1 + 1 + 1) W4 wr) (fun _ i _ => (intOf i + 1).toNat)
  case atStart =>
    refine ⟨n, _, some ⟨w1.heap.size, 0, none⟩, 0, 0, 0, Nat.le_refl _, rfl, rfl, ?_, ?_, hown2, hst, hb2⟩
    · intro a ha; cases ha; exact hsz1.2
    · exact ⟨_, 0, 0, [], rfl, rfl, Nat.le_refl _, by simp [maxLen], (by intro e; cases e), .inl rfl, DG.Dig.nil _, fun h => absurd rfl h, rfl, Nat.zero_le _⟩
  case round =>
    clear hown1 hb1 hown2 hb2 hst hsz1
    obtain ⟨k, qs, A2, n2, c2, R, hk, rfl, rfl, hA2b, hrm, hown, hdr, hbl⟩ := hrel
    cases k with
    | zero =>
      have hdone := hdr.done
      have hdig := hdr.dig
      have hlen := hdr.len
      rw [HN.out] at hlen
      have hrest := hdr.rest
      have q1 := (HB1.out.below hbl (by omega)).cell0
      have c1 : Calls Tryz.prog 45 #[.agg #[.bool true, (.slice (some ⟨w.heap.size + 1 + 1 + 1 + 1, 0, none⟩) n n)]] wr (RetR (-DG.dv DG.b4 qs) n wr) := by
        have := lean_any true wr (Digs.own hown hdig) (by omega)
        rw [hlen] at this
        simpa using this
      have c2' : ∀ W, Below wr.heap.size wr W → Calls Tryz.prog 45 #[.agg #[.bool false, .slice A2 n2 c2]] W (RetR R M W) := fun W hb => by
        have := lean_isd false W (hrm.below hb).isD (by omega)
        simpa using this
      have HDN := Lib.hid hdone
      have HRS := Lib.hid hrest
      clear hdr hown hrm hA2b hdig hlen hdone hrest
      generalize DG.dv DG.b4 qs = zq at *
      have d0 : decide ((0 : Int) ≤ ((0 : Nat) : Int) - 1) = false := rfl
      go_wp2_with fail
      refine c1.mono ?_
      rintro e V1 ⟨v1, rfl, hz1, hb1⟩
      have c3 := c2' V1 hb1
      have hbl1 := hbl.trans (hb1.mono (by have := hbl.size; have := HS4.out; omega))
      clear c1 c2'
      go_wp2_with fail
      refine c3.mono ?_
      rintro e V2 ⟨v2, rfl, hz2, hb2⟩
      have hbl2 := hbl1.trans (hb2.mono (by have := hbl1.size; have := HS4.out; omega))
      have hz1' := hz1.below hb2
      have hsz2 : w.heap.size + 1 + 1 + 1 + 1 ≤ V2.heap.size := by have := hbl2.size; have := HS4.out; omega
      clear c3 hz1 hb1 hb2 hbl hbl1
      obtain ⟨A6, n6, c6, rfl, hm2⟩ := hz2.pos' HRS.out.1
      obtain ⟨neg1, A5, n5, c5, m5, rfl, hm5, hz5, hp5, -, -⟩ := hz1'.open'
      have hn0 : n6 = 0 ↔ R = 0 := by
        obtain ⟨A', n', c', e', -, h⟩ := hm2.open'
        cases e'; exact h
      clear hm5 hz5 hp5
      obtain ⟨p1, rfl⟩ : ∃ p : Bool × Unit, neg1 = p.1 := ⟨(neg1, ()), rfl⟩
      obtain ⟨W5, hW5⟩ : ∃ W5, W5 = (V2.alloc (.cells #[.bool p1.1, .slice A5 n5 c5] 43)).alloc (.cells #[.bool false, .slice A6 n6 c6] 43) := ⟨_, rfl⟩
      have T1 : Two W5 V2.heap.size (.bool p1.1) (.slice A5 n5 c5) 43 := by rw [hW5]; exact (Two.newAt _ _ _ _ _ rfl).alloc _
      have T2 : Two W5 (V2.heap.size + 1) (.bool false) (.slice A6 n6 c6) 43 := by rw [hW5]; exact Two.newAt _ _ _ _ _ (by simp)
      have hbV : Below V2.heap.size V2 W5 := by rw [hW5]; exact ((Below.refl _ _).alloc (Nat.le_refl _) _).alloc (by simp) _
      have hbl5 : Below (w.heap.size + 1 + 1 + 1 + 1) W4 W5 := hbl2.trans (hbV.mono hsz2)
      have hs5 : W5.heap.size = V2.heap.size + 1 + 1 := by rw [hW5]; simp
      have z1 := hz1'.below hbV
      have z2 := hz2.below hbV
      have HT1 := Lib.hid T1
      have HT2 := Lib.hid T2
      have HBL := Lib.hid hbl5
      have HWX := Lib.hid (HB.out.trans (hbl5.mono (by omega)))
      have HZ1 := Lib.hid z1
      have HZ2 := Lib.hid z2
      have HS5 := Lib.hid hs5
      have HV2 := Lib.hid hsz2
      have HW5 := Lib.hid hW5
      have HN0 := Lib.hid hn0
      clear hz1' hz2 hm2 hbl2 hbV T1 T2 hbl5 z1 z2 hs5 hsz2 hn0
      have q2 := (HB1.out.below HBL.out (by omega)).cell0
      have q3 := HT2.out.cell1
      have q4 := HT2.out.cell0
      have q5 := HT1.out.cell0
      have q6 := HT1.out.cell1
      go_upto_region 15 with fail
      rw [← hW5]
      clear hW5
      by_cases hn6 : n6 = 0
      · have hR0 : R = 0 := HN0.out.1 hn6
        subst hn6
        have HR0 := Lib.hid hR0
        clear hR0
        have e1 : ((0 : Nat) : Int) = 0 := rfl
        go_wp2_with fail
        have R3 := HB3.out.below HBL.out (by omega)
        have R4 := HB4.out.below HBL.out (by omega)
        refine Lex.wp_region_lex (fun w' => w'.cell? ⟨V2.heap.size, 0, none⟩ = some (.bool p1.1) ∧ w'.cell? ⟨V2.heap.size, 1, none⟩ = some (.slice A5 n5 c5) ∧ w'.cell? ⟨V2.heap.size + 1, 0, none⟩ = some (.bool false) ∧ w'.cell? ⟨V2.heap.size + 1, 1, none⟩ = some (.slice A6 0 c6)) (fun j => j != 3)
          [(0, true), (1, true), (2, false), (3, false)]
          (by kernel_rfl) (by kernel_rfl) (by kernel_rfl) (by kernel_rfl) ⟨HT1.out.cell0, HT1.out.cell1, HT2.out.cell0, HT2.out.cell1⟩ ?_
        iterate 2 (refine Lex.lex_take (v := ?_) rfl rfl (by rfl) (fun _ hS => ?_) ?_; rotate_left 1; (focus (go_split_ands; go_simp; with_reducible rfl)); simp only [List.setIfInBounds_toArray, List.set_cons_zero, List.set_cons_succ])
        refine Lex.lex_do rfl ?_
        have HR4 := Lib.hid R4
        have HR3 := Lib.hid R3
        have r0 := R3.cell0
        have r1 := R3.cell1
        have g0 := R3.free 0
        have g1 := R3.free 1
        have r2 := R4.cell0
        have r3 := R4.cell1
        have g2 := R4.free 0
        have g3 := R4.free 1
        clear R3 R4
        go_wp2_with fail
        have T1' := (HT1.out.setOther ⟨w.heap.size + 1 + 1, 0, none⟩ (.bool p1.1) (by have := HV2.out; simp; omega)).setOther ⟨w.heap.size + 1 + 1, 1, none⟩ (.slice A5 n5 c5) (by have := HV2.out; simp; omega)
        have T2' := (HT2.out.setOther ⟨w.heap.size + 1 + 1, 0, none⟩ (.bool p1.1) (by have := HV2.out; simp; omega)).setOther ⟨w.heap.size + 1 + 1, 1, none⟩ (.slice A5 n5 c5) (by have := HV2.out; simp; omega)
        refine Lex.lexQ_normal (fun _ => ⟨T1'.cell0, T1'.cell1, T2'.cell0, T2'.cell1⟩) ?_
        refine Lex.lex_do rfl ?_
        clear T1' T2'
        go_wp2_with fail
        refine Lex.lexQ_normal (fun h => absurd h (by decide)) ?_
        refine Lex.lex_nil ?_
        go_wp2
        refine bodyPost_ret (v := .tuple #[.agg #[.bool p1.1, .slice A5 n5 c5], .agg #[.bool false, .slice A6 0 c6]]) (by simp [results, Tryz.results24, go_sem, r0, r1, r2, r3]) rfl ?_
        have hfin : Below w.heap.size w ((((W5).setCell ⟨w.heap.size + 1 + 1, 0, none⟩ (.bool p1.1)).setCell ⟨w.heap.size + 1 + 1, 1, none⟩ (.slice A5 n5 c5)).setCell ⟨w.heap.size + 1 + 1 + 1, 0, none⟩ (.bool false) |>.setCell ⟨w.heap.size + 1 + 1 + 1, 1, none⟩ (.slice A6 0 c6)) := ((((HB.out.trans (HBL.out.mono (by omega))).setCell (by simp; omega) _).setCell (by simp; omega) _).setCell (by simp; omega) _).setCell (by simp; omega) _
        have y1 := (HZ1.out.stored (u0 := .bool p1.1) (u1 := .slice A5 n5 c5) HR3.out).stored (u0 := .bool false) (u1 := .slice A6 0 c6) ((HR4.out.setOther ⟨w.heap.size + 1 + 1, 0, none⟩ (.bool p1.1) (by simp)).setOther ⟨w.heap.size + 1 + 1, 1, none⟩ (.slice A5 n5 c5) (by simp))
        have y2 := (HZ2.out.stored (u0 := .bool p1.1) (u1 := .slice A5 n5 c5) HR3.out).stored (u0 := .bool false) (u1 := .slice A6 0 c6) ((HR4.out.setOther ⟨w.heap.size + 1 + 1, 0, none⟩ (.bool p1.1) (by simp)).setOther ⟨w.heap.size + 1 + 1, 1, none⟩ (.slice A5 n5 c5) (by simp))
        have hm0 := HDN.out
        have hdn := (DG.div_neg' HY0.out HPX.out).1 (by rw [← hm0.2]; exact HR0.out)
        refine ⟨_, _, rfl, ?_, ?_, hfin.drew⟩
        · rw [hdn.1, ← HDN.out.1]
          exact (y1.more (by omega)).drew
        · rw [hdn.2]
          have := (y2.more (show M ≤ M + 3 by omega)).drew
          rw [HR0.out] at this
          exact this
      · have hR0 : R ≠ 0 := fun h => hn6 (HN0.out.2 h)
        have d1 : decide (0 < n6) = true := decide_eq_true (by omega)
        have d2 : decide ((0 : Int) < (n6 : Int)) = true := decide_eq_true (by omega)
        have HR0 := Lib.hid hR0
        clear hR0
        go_wp2_with fail
        have HBb := Lib.hid (HB2.out.below HBL.out (by omega))
        refine Lex.wp_region_lex (fun w' => Two w' V2.heap.size (.bool p1.1) (.slice A5 n5 c5) 43 ∧ Two w' (V2.heap.size + 1) (.bool false) (.slice A6 n6 c6) 43 ∧ Two w' (w.heap.size + 1) (.bool false) (.slice B m d) 43) (fun j => j != 7)
          [(0, true), (3, true), (4, true), (1, false), (2, false), (5, false), (6, false), (7, false)]
          (by kernel_rfl) (by kernel_rfl) (by kernel_rfl) (by kernel_rfl) ⟨HT1.out, HT2.out, HBb.out⟩ ?_
        iterate 3 (refine Lex.lex_take (v := ?_) rfl rfl (by rfl) (fun _ hS => ?_) ?_; rotate_left 1; (focus (have g1 := hS.1.cell0; have g2 := hS.1.cell1; have g3 := hS.2.1.cell0; have g4 := hS.2.1.cell1; have g5 := hS.2.2.cell0; have g6 := hS.2.2.cell1; clear hS; go_simp; with_reducible rfl)); simp only [List.setIfInBounds_toArray, List.set_cons_zero, List.set_cons_succ])
        refine Lex.lex_do rfl ?_
        have ci := rint_any 1 W5.drew ⟨by omega, by omega⟩
        go_wp2_with fail
        refine ci.mono ?_
        rintro e X1 ⟨v1, rfl, hx1, hb1⟩
        have hb1 : Below W5.heap.size W5 X1 := ⟨hb1.os, hb1.tape, hb1.output, hb1.size, hb1.block⟩
        clear ci
        have cs1 := rsub_any ((HZ1.out).below hb1) hx1 (by omega) (by omega)
        have E1 := HT1.out.below hb1 (by have := HS5.out; omega)
        have E2 := HT2.out.below hb1 (by have := HS5.out; omega)
        have E3 := HBb.out.below hb1 (by have := HS5.out; have := HV2.out; omega)
        go_wp2_with fail
        refine Lex.lexQ_normal (fun _ => ⟨E1, E2, E3⟩) ?_
        refine Lex.lex_do rfl ?_
        clear hx1 E1 E2 E3
        go_wp2_with fail
        refine cs1.mono ?_
        rintro e X2 ⟨v2, rfl, hx2, hb2⟩
        have hb2 := hb1.trans (hb2.mono hb1.size)
        clear cs1 hb1
        have cs2 := rsub_any ((HIB.out.below HWX.out).below hb2) ((HZ2.out).below hb2) (by omega) (by omega)
        have E1 := HT1.out.below hb2 (by have := HS5.out; omega)
        have E2 := HT2.out.below hb2 (by have := HS5.out; omega)
        have E3 := HBb.out.below hb2 (by have := HS5.out; have := HV2.out; omega)
        go_wp2_with fail
        refine Lex.lexQ_normal (fun _ => ⟨E1, E2, E3⟩) ?_
        refine Lex.lex_do rfl ?_
        clear E1 E2 E3
        go_wp2_with fail
        refine cs2.mono ?_
        rintro e X3 ⟨v3, rfl, hx3, hb3⟩
        have hx2' := hx2.below hb3
        have hb4 := hb2.trans (hb3.mono hb2.size)
        clear cs2 hb2 hb3 hx2
        obtain ⟨neg2, A8, n8, c8, m8, rfl, -, -, -, -, -⟩ := hx2'.open'
        obtain ⟨neg3, A9, n9, c9, m9, rfl, -, -, -, -, -⟩ := hx3.open'
        obtain ⟨p2, rfl⟩ : ∃ p : Bool × Unit, neg2 = p.1 := ⟨(neg2, ()), rfl⟩
        obtain ⟨p3, rfl⟩ : ∃ p : Bool × Unit, neg3 = p.1 := ⟨(neg3, ()), rfl⟩
        have E1 := HT1.out.below hb4 (by have := HS5.out; omega)
        have E2 := HT2.out.below hb4 (by have := HS5.out; omega)
        have E3 := HBb.out.below hb4 (by have := HS5.out; have := HV2.out; omega)
        have HE1 := Lib.hid E1
        have HE2 := Lib.hid E2
        have HE3 := Lib.hid E3
        have HX2 := Lib.hid hx2'
        have HX3 := Lib.hid hx3
        have hB4 := HBL.out.trans (hb4.mono (by have := HS5.out; have := HV2.out; omega))
        have HBX := Lib.hid hB4
        have R3 := HB3.out.below hB4 (by omega)
        have R4 := HB4.out.below hB4 (by omega)
        have HR4 := Lib.hid R4
        have HR3 := Lib.hid R3
        have r0 := R3.cell0
        have r1 := R3.cell1
        have g0 := R3.free 0
        have g1 := R3.free 1
        have r2 := R4.cell0
        have r3 := R4.cell1
        have g2 := R4.free 0
        have g3 := R4.free 1
        clear R3 R4 hB4 hx2' hx3 hb4
        go_wp2_with fail
        refine Lex.lexQ_normal (fun _ => ⟨E1, E2, E3⟩) ?_
        refine Lex.lex_do rfl ?_
        clear E1 E2 E3
        go_wp2_with fail
        have E1 := (HE1.out.setOther ⟨w.heap.size + 1 + 1, 0, none⟩ (.bool p2.1) (by have := HV2.out; simp; omega)).setOther ⟨w.heap.size + 1 + 1, 1, none⟩ (.slice A8 n8 c8) (by have := HV2.out; simp; omega)
        have E2 := (HE2.out.setOther ⟨w.heap.size + 1 + 1, 0, none⟩ (.bool p2.1) (by have := HV2.out; simp; omega)).setOther ⟨w.heap.size + 1 + 1, 1, none⟩ (.slice A8 n8 c8) (by have := HV2.out; simp; omega)
        have E3 := (HE3.out.setOther ⟨w.heap.size + 1 + 1, 0, none⟩ (.bool p2.1) (by simp)).setOther ⟨w.heap.size + 1 + 1, 1, none⟩ (.slice A8 n8 c8) (by simp)
        refine Lex.lexQ_normal (fun _ => ⟨E1, E2, E3⟩) ?_
        refine Lex.lex_do rfl ?_
        clear E1 E2 E3
        go_wp2_with fail
        refine Lex.lexQ_normal (fun h => absurd h (by decide)) ?_
        refine Lex.lex_nil ?_
        go_wp2
        refine bodyPost_ret (v := .tuple #[.agg #[.bool p2.1, .slice A8 n8 c8], .agg #[.bool p3.1, .slice A9 n9 c9]]) (by simp [results, Tryz.results24, go_sem, r0, r1, r2, r3]) rfl ?_
        have hfin : Below w.heap.size w ((((X3).setCell ⟨w.heap.size + 1 + 1, 0, none⟩ (.bool p2.1)).setCell ⟨w.heap.size + 1 + 1, 1, none⟩ (.slice A8 n8 c8)).setCell ⟨w.heap.size + 1 + 1 + 1, 0, none⟩ (.bool p3.1) |>.setCell ⟨w.heap.size + 1 + 1 + 1, 1, none⟩ (.slice A9 n9 c9)) := ((((HB.out.trans (HBX.out.mono (by omega))).setCell (by simp; omega) _).setCell (by simp; omega) _).setCell (by simp; omega) _).setCell (by simp; omega) _
        have y1 := (HX2.out.stored (u0 := .bool p2.1) (u1 := .slice A8 n8 c8) HR3.out).stored (u0 := .bool p3.1) (u1 := .slice A9 n9 c9) ((HR4.out.setOther ⟨w.heap.size + 1 + 1, 0, none⟩ (.bool p2.1) (by simp)).setOther ⟨w.heap.size + 1 + 1, 1, none⟩ (.slice A8 n8 c8) (by simp))
        have y2 := (HX3.out.stored (u0 := .bool p2.1) (u1 := .slice A8 n8 c8) HR3.out).stored (u0 := .bool p3.1) (u1 := .slice A9 n9 c9) ((HR4.out.setOther ⟨w.heap.size + 1 + 1, 0, none⟩ (.bool p2.1) (by simp)).setOther ⟨w.heap.size + 1 + 1, 1, none⟩ (.slice A8 n8 c8) (by simp))
        have hm0 := HDN.out
        have hdn := (DG.div_neg' HY0.out HPX.out).2 (by rw [← hm0.2]; exact HR0.out)
        have hq := HPX.out
        have hlt := HPL.out
        have hq0 : 0 ≤ zq := by rw [hm0.1]; exact Int.ediv_nonneg hq (by have := HY0.out; omega)
        have hq1 : zq < DG.b4 ^ n := by rw [hm0.1]; exact Int.lt_of_le_of_lt (Int.ediv_le_self _ hq) hlt
        have hp1 : DG.b4 ^ n < DG.b4 ^ (n + 1) := by rw [Int.pow_succ]; have : 0 < DG.b4 ^ n := Int.pow_pos (by decide); unfold DG.b4 at *; omega
        have hR := HRS.out
        have hYB := HYB.out
        refine ⟨_, _, rfl, ?_, ?_, hfin⟩
        · rw [hdn.1, ← hm0.1]
          exact y1.fit (by omega) (by omega)
        · rw [hdn.2, ← hm0.2]
          exact (y2.fit (k := M) (by omega) (by omega)).more (by omega)
    | succ k =>
      rw [show ((k + 1 : Nat) : Int) - 1 = (k : Int) from by omega]
      have hsz : w.heap.size + 1 + 1 + 1 + 1 ≤ wr.heap.size := by have := hbl.size; have := HS4.out; omega
      have hgap : w.heap.size + 1 + 1 + 1 + 1 < wr.heap.size := (hown.lt (w.heap.size + 1 + 1 + 1 + 1) rfl).2
      obtain ⟨b1, o1, rfl, hl1, hc1⟩ := (hA.below (HB.out.trans (hbl.mono (by omega)))).get (k := k) (by rw [HN.out]; omega)
      rw [HXG.out k (by rw [HN.out]; omega)] at hc1
      have hxb := HX.out k
      have hrest := hdr.rest
      have hstep := fun lo a b c d => hdr.step (by rw [HN.out]; omega) (lo := lo) a b c d
      have HDR := Lib.hid hstep
      obtain ⟨A2', n2', c2', rs, e', hrl, hrc, hrm2, hr0, hrI, hrD, hrN, hrv, hrM⟩ := hrm
      cases e'
      rw [show DG.b4 = 10000 from rfl] at hxb
      have hR1b : xs.getD k 0 + 10000 * R < 10000 * y := less_by hrest.2 hxb.2
      have hR1p : 0 ≤ xs.getD k 0 + 10000 * R := by have := hrest.1; omega
      have hdg := dig_append (x := xs.getD k 0) hxb hrD
      have hdv := dv_app1 (xs.getD k 0) rs
      rw [hrv] at hdv
      have hlen : (xs.getD k 0 :: rs).length = n2 + 1 := by simp [hrl]
      have q1 := (HB1.out.below hbl (by omega)).cell1
      have HK := Lib.hid hk
      have i1 : (k : Int) < (n : Int) := by omega
      clear hdr hstep hrest hrv hrD hrN hk
      generalize xs.getD k 0 = x at *
      generalize hR1 : x + 10000 * R = R1 at *
      go_wp2_with (at_builtin; refine wpList_intsA _ rfl _ _ rfl wr.heap.size (.slice (some ⟨wr.heap.size, 0, none⟩) 1 1) 1 [x] rfl ?c1 A2 n2 c2 rs rfl ?c2 hrl (by omega) hr0 (by omega) ?c4 ?_)
      case c1 => exact own_lit 3 .i64 wr [x] 1 wr.heap.size rfl (Nat.le_refl _) (by omega)
      case c2 => exact Ints.below hrI ((Below.refl _ _).alloc (Nat.le_refl _) _)
      case c4 => simp
      intro v' w2 hown1 hgrow
      have hbA : Below wr.heap.size wr w2 := ((Below.refl wr.heap.size wr).alloc (Nat.le_refl _) (.cells #[.int .i64 x] 3)).grown hgrow (by simp) (by intro g hg; simp [Value.ownBlock] at hg; omega)
      have hown1 : Own 3 .i64 w2 wr.heap.size v' (n2 + 1) (x :: rs) := by simpa [Nat.add_comm] using hown1
      obtain ⟨A3, c3, rfl, -⟩ := hown1.sli.lieA hlen
      have cln := lean_fresh w2 (Digs.own hown1 hdg) (by omega)
      rw [hdv, hlen] at cln
      have hownA := hown.below hbA
      have hblA := hbl.trans (hbA.mono hsz)
      have hszA := hbA.size
      clear hgrow hrI hown hbl hown1 hbA hdg hdv hlen q1 hc1 hrl hr0
      go_wp2_with fail
      refine cln.mono ?_
      rintro e V1 ⟨v1, rfl, hz1, hb1, hfr1⟩
      clear cln
      obtain ⟨A4, n4, c4, rfl, hm1⟩ := hz1.pos' hR1p
      have hfr : ∀ a, A4 = some a → w.heap.size + 1 + 1 + 1 + 1 < a.block := fun a ha => by have := hfr1 _ _ _ _ a rfl ha; omega
      have hown1 := hownA.below hb1
      have hbl1 := hblA.trans (hb1.mono (by omega))
      have hsz1 : w.heap.size + 1 + 1 + 1 + 1 < V1.heap.size := by have := hb1.size; omega
      have HM1 := Lib.hid (hm1.more (show n2 + 1 ≤ M + 1 by omega))
      have HFR := Lib.hid hfr
      have HO1 := Lib.hid hown1
      have HBL1 := Lib.hid hbl1
      have hfd := fun W => field_Z1 false A4 n4 c4 W
      clear hz1 hfr1 hm1 hownA hblA hb1 hfr hown1 hbl1 hszA
      go_wp2
      clear hfd
      go_loopw [9, 10] (fun lo hi wr => ∃ l h : Nat, lo = .int .i64 l ∧ hi = .int .i64 h ∧ l < h ∧ h ≤ 10000 ∧ (l : Int) * y ≤ R1 ∧ R1 < (h : Int) * y ∧ Below V1.heap.size V1 wr) (fun lo hi _ => (intOf hi - intOf lo).toNat)
      case atStart => exact ⟨0, 10000, rfl, rfl, by omega, by omega, by simpa using hR1p, by simpa using hR1b, Below.refl _ _⟩
      case round =>
        obtain ⟨l, h, rfl, rfl, hlh, hh, hle, hlt, hbi⟩ := hrel
        have q2 := (HB2.out.below (HBL1.out.trans (hbi.mono (by omega))) (by omega)).cell1
        by_cases hgo : l + 1 < h
        · have d1 : decide ((1 : Int) < (h : Int) - (l : Int)) = true := decide_eq_true (by omega)
          have t1 : Int.tdiv ((l : Int) + (h : Int)) 2 = (((l + h) / 2 : Nat) : Int) := by rw [Int.tdiv_eq_ediv_of_nonneg (by omega)]; omega
          have m1 : l < (l + h) / 2 := by omega
          have m2 : (l + h) / 2 < h := by omega
          generalize (l + h) / 2 = mid at *
          have u1 : IntKind.i64.wrap (mid : Int) = mid := IntWalk.i64_in _ (by omega)
          have ct := rtimes_any mid (HY.out.below (HB.out.trans ((HBL1.out.trans (hbi.mono (by omega))).mono (by omega)))) (by omega) (by omega)
          have hRM := HM1.out.below hbi
          go_wp2_with fail
          refine ct.mono ?_
          rintro e V2 ⟨v2, rfl, hm2, hb2⟩
          obtain ⟨A5, n5, c5, rfl, -, -⟩ := hm2.open'
          have cs := rsizes_any hm2 (hRM.below hb2) (by omega) (by omega)
          have hbi2 := hbi.trans (hb2.mono hbi.size)
          clear ct hb2 hm2 hRM hbi
          by_cases hmid : (mid : Int) * y ≤ R1
          · have hsg : sgn (y * mid - R1) ≤ 0 := by rw [Int.mul_comm]; unfold sgn; split <;> (try split) <;> omega
            generalize sgn (y * mid - R1) = sg at *
            have d2 : decide (sg ≤ 0) = true := decide_eq_true hsg
            clear hsg
            go_wp2_with fail
            refine cs.mono ?_
            rintro e V3 ⟨rfl, z, rfl⟩
            clear cs
            go_wp2
            go_roundw
            case rel => exact ⟨mid, h, rfl, rfl, m2, hh, hmid, hlt, hbi2.drewN z⟩
            case measure => simp [intOf]; omega
          · have hsg : ¬ sgn (y * mid - R1) ≤ 0 := by rw [Int.mul_comm]; unfold sgn; split <;> (try split) <;> omega
            generalize sgn (y * mid - R1) = sg at *
            have d2 : decide (sg ≤ 0) = false := decide_eq_false hsg
            clear hsg
            go_wp2_with fail
            refine cs.mono ?_
            rintro e V3 ⟨rfl, z, rfl⟩
            clear cs
            go_wp2
            go_roundw
            case rel => exact ⟨l, mid, rfl, rfl, m1, by omega, hle, by omega, hbi2.drewN z⟩
            case measure => simp [intOf]; omega
        · obtain rfl : h = l + 1 := by omega
          have d1 : decide ((1 : Int) < ((l + 1 : Nat) : Int) - (l : Int)) = false := decide_eq_false (by omega)
          have d1' : decide ((1 : Int) < (l : Int) + 1 - (l : Int)) = false := decide_eq_false (by omega)
          have hnew := HDR.out (l : Int) (by omega) (by omega) hle (by push_cast at hlt; exact hlt)
          have hown := HO1.out.below hbi
          obtain ⟨y0, hco⟩ := hown.cell (k := k) (by omega)
          have hfz := hown.frozen k
          have hown2 := hown.set k (l : Int)
          have hbl := (HBL1.out.trans (hbi.mono (by omega))).setCell (p := ⟨w.heap.size + 1 + 1 + 1 + 1, k, none⟩) (Nat.le_refl _) (.int .i64 (l : Int))
          have hRM := (HM1.out.below hbi).setOther ⟨w.heap.size + 1 + 1 + 1 + 1, k, none⟩ (.int .i64 (l : Int)) (fun a ha => by have := HFR.out a ha; show a.block ≠ w.heap.size + 1 + 1 + 1 + 1; omega)
          have hszi := hbi.size
          clear hown
          obtain ⟨U, hU⟩ : ∃ U, U = wr.setCell ⟨w.heap.size + 1 + 1 + 1 + 1, k, none⟩ (.int .i64 (l : Int)) := ⟨_, rfl⟩
          have hszU : U.heap.size = wr.heap.size := by rw [hU]; simp [World.setCell]
          rw [← hU] at hown2 hbl hRM
          have q3 := (HB2.out.below hbl (by omega)).cell1
          have ct := rtimes_any l (HY.out.below (HB.out.trans (hbl.mono (by omega)))) (by omega) (by omega)
          have HBLU := Lib.hid hbl
          have HOU := Lib.hid hown2
          have HRM := Lib.hid hRM
          have HNEW := Lib.hid hnew
          have hyl : y * (l : Int) ≤ R1 := by rw [Int.mul_comm]; exact hle
          have hrlt : R1 - y * (l : Int) < y := by have := hnew.rest.2; rw [Int.mul_comm]; exact this
          clear hbl hown2 hRM hnew q2 hbi
          go_upto_region 13 with fail
          rw [← hU]
          clear hU hco hfz
          go_wp2_with fail
          refine ct.mono ?_
          rintro e V2 ⟨v2, rfl, hm2, hb2⟩
          obtain ⟨A5, n5, c5, rfl, -, -⟩ := hm2.open'
          have cl := rless_any (HRM.out.below hb2) hm2 (by omega) hyl
          have hbl2 := HBLU.out.trans (hb2.mono (by omega))
          have hown2 := HOU.out.below hb2
          have hsz2 := hb2.size
          clear ct hb2 hm2
          go_wp2_with fail
          refine cl.mono ?_
          rintro e V3 ⟨v3, zs3, rfl, hd3, hv3, hl3, hb3⟩
          have c3 := lean_fresh V3 hd3 (by omega)
          rw [hv3] at c3
          have hbl3 := hbl2.trans (hb3.mono (by omega))
          have hown3 := hown2.below hb3
          have hsz3 := hb3.size
          obtain ⟨A6, n6, c6, e6, -⟩ := hd3
          subst e6
          clear cl hb3 hv3 hbl2 hown2
          go_wp2_with fail
          refine c3.mono ?_
          rintro e V4 ⟨v4, rfl, hz4, hb4, hfr4⟩
          obtain ⟨A7, n7, c7, rfl, hm4⟩ := hz4.pos' (by omega)
          have hfd := fun W => field_Z1 false A7 n7 c7 W
          have hfr7 : ∀ a, A7 = some a → w.heap.size + 1 + 1 + 1 + 1 < a.block := fun a ha => by have := hfr4 _ _ _ _ a rfl ha; omega
          have hbl4 := hbl3.trans (hb4.mono (by omega))
          have hown4 := hown3.below hb4
          have hm4' := hm4.fit (k := M) (by have := HYB.out; omega)
          have HO4 := Lib.hid hown4
          have HM4 := Lib.hid hm4'
          have HB4' := Lib.hid hbl4
          have HF7 := Lib.hid hfr7
          clear c3 hz4 hb4 hfr4 hm4 hbl3 hown3 hown4 hm4' hbl4 hfr7
          go_wp2
          go_roundw
          case rel =>
            refine ⟨k, _, A7, n7, c7, R1 - y * (l : Int), by have := HK.out; omega, rfl, rfl, HF7.out, HM4.out, HO4.out, ?_, HB4'.out⟩
            have := HNEW.out
            rwa [Int.mul_comm (l : Int) y] at this
          case measure => simp [intOf]

theorem rdivmod_any {w : World} {u v : Value} {x y : Int} {N M : Nat} (hu : IsR w u x N) (hv : IsR w v y M) (hN : N ≤ 290) (hM : M ≤ 290) (hy : 0 < y) :
    Calls Tryz.prog 24 #[u, v] w (RetDM x y (N + 1) (M + 3) w) := by
  obtain ⟨na, mu, a, rfl, ha, hx, _⟩ := hu
  obtain ⟨B, m, d, rfl, hm⟩ := hv.pos' (by omega)
  obtain ⟨A, n, c, xs, rfl, h2, h3, h4, h5, h6, h7, h8, rfl, h10⟩ := ha
  have more : ∀ e w' z, RetDM z y (n + 1) (M + 3) w e w' → RetDM z y (N + 1) (M + 3) w e w' := fun e w' z ⟨v1, v2, g1, g2, g3, g4⟩ => ⟨v1, v2, g1, g2.more (by omega), g3, g4⟩
  cases na with
  | false => exact (rdivmod_false A n c B m d xs y M w h6 h2 hm (by omega) (by omega) h7 hy).mono fun e w' h => more e w' _ (by simpa [hx] using h)
  | true => exact (rdivmod_true A n c B m d xs y M w h6 h2 hm (by omega) (by omega) h7 hy).mono fun e w' h => more e w' _ (by simpa [hx] using h)
/-- The results' bounds by their values. -/
theorem RetDM.fit {x y : Int} {N M : Nat} {w w' : World} {e : Ending} (h : RetDM x y N M w e w') (hy : 0 < y) {K L : Nat} (h1 : -(DG.b4 ^ K) < x ∧ x < DG.b4 ^ K) (h2 : y ≤ DG.b4 ^ L) : RetDM x y K L w e w' := by
  obtain ⟨v1, v2, g1, g2, g3, g4⟩ := h
  have a1 := Int.emod_nonneg x (show y ≠ 0 by omega)
  have a2 := Int.emod_lt_of_pos x hy
  have hlo : -(DG.b4 ^ K) < x / y := by
    have : -(DG.b4 ^ K - 1) ≤ x / y := (Int.le_ediv_iff_mul_le hy).2 (by
      have h0 : 0 < DG.b4 ^ K := Int.pow_pos (by decide)
      have : (DG.b4 ^ K - 1) * 1 ≤ (DG.b4 ^ K - 1) * y := Int.mul_le_mul_of_nonneg_left (by omega) (by omega)
      rw [Int.neg_mul]; omega)
    omega
  have hhi : x / y < DG.b4 ^ K := by
    by_cases h : x < 0
    · have : x / y < 0 := Int.ediv_neg_of_neg_of_pos h hy
      have h0 : 0 < DG.b4 ^ K := Int.pow_pos (by decide)
      omega
    · exact Int.lt_of_le_of_lt (Int.ediv_le_self _ (by omega)) h1.2
  have h0 : 0 < DG.b4 ^ L := Int.pow_pos (by decide)
  exact ⟨v1, v2, g1, g2.fit hlo hhi, g3.fit (by omega) (by omega), g4⟩
end Go.Proofs.YtklngjjokbhfpaaGreatDoor
