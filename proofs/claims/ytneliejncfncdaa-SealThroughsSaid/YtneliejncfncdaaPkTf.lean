/- Texts Tf in one. -/
import Derived.Test.YtneliejncfncdaaPkTd
import Derived.StillTailTactics
import Derived.Deep.QuietTactic
import Derived.BigQuiet
namespace Go.Proofs.Ytneliejncfncdaa
open Go.RowKit

theorem ownI_one (w : World) (x : Int) (base : Nat) (hb : base ≤ w.heap.size) : OwnI (w.alloc (.cells #[.int .i64 x] 3)) base (.slice (some ⟨w.heap.size, 0, none⟩) 1 1) 1 [x] :=
  World.ownsRow_lit w #[.int .i64 x] 1 hb (by simp [maxLen]) rfl

set_option maxRecDepth 100000 in
set_option maxHeartbeats 3200000 in
theorem refThrough_any (q : Int) (A C : Option Addr) (c d n : Nat) (xs ys : List Int) (w : World) (hq : primeB q = true) (hx : elemB q xs = true) (hy : elemB q ys = true) (hnd : xs.Nodup)
    (hxl : xs.length = n) (hyl : ys.length = n) (hn1 : 1 ≤ n) (hn2 : n ≤ 31) (hA : Ints w A xs) (hC : Ints w C ys) :
    Calls Try.prog 41 #[.int .i64 q, .slice A n c, .slice C n d] w (RetOwn (lagOut q xs ys n n) w) := by
  have hpr := prime_bd hq
  obtain ⟨hq1, hq2⟩ := hpr
  have HX := Lib.hid hxl
  have HY := Lib.hid hyl
  have HND := Lib.hid hnd
  clear hxl hyl hnd
  go_enter Try.func41, Try.ntmps41
  go_wp2_with (at_make; refine wpList_makeInts _ rfl _ _ rfl w.heap.size _ _ n rfl rfl rfl rfl (by omega) (Nat.le_refl _) ?_)
  intro w1 hown1 hgrow1
  have hb1 := (Below.refl w.heap.size w).grown hgrow1 (Nat.le_refl _) (by intro k hk; cases hk)
  clear hgrow1
  have hown1 : OwnI w1 w.heap.size (.slice (some ⟨w.heap.size, 0, none⟩) n n) n (lagOut q xs ys n 0) := hown1
  obtain ⟨B, hB⟩ : ∃ B, w.heap.size = B := ⟨_, rfl⟩
  rw [hB] at hown1 hb1 ⊢
  have HB := Lib.hid hB
  have hA0 : Ints w A xs := hA
  clear hB
  go_wp2
  go_loopw [8] (fun i wr => ∃ m : Nat, m ≤ n ∧ i = .int .i64 m ∧ OwnI wr B (.slice (some ⟨B, 0, none⟩) n n) n (lagOut q xs ys n m) ∧ Below B w wr) (fun i _ => n - (intOf i).toNat)
  case atStart => exact ⟨0, by omega, rfl, hown1, hb1⟩
  case round =>
    clear hown1 hb1
    obtain ⟨m, hm, rfl, hown, hbl⟩ := hrel
    by_cases hlt : m < n
    · have hOl := (hown.lt B rfl).2
      have hone := ownI_one wr 1 (B + 1) (by omega)
      have hown1 := hown.alloc (.cells #[.int .i64 1] 3)
      have hbl1 := hbl.alloc (by omega) (.cells #[.int .i64 1] 3)
      clear hown hbl
      go_wp2
      obtain ⟨wo, hwo⟩ : ∃ wo : World, wo = wr.alloc (.cells #[.int .i64 1] 3) := ⟨_, rfl⟩
      rw [← hwo] at hone hown1 hbl1 ⊢
      generalize wr.heap.size = R at *
      clear hwo
      have HO := Lib.hid hown1
      have hle0 := lagO_length q xs m 0
      go_loopw [9, 10, 11] (fun o s i wx => ∃ k : Nat, k ≤ n ∧ i = .int .i64 k ∧ s = .int .i64 (lagS q xs m k) ∧ OwnI wx (B + 1) o (lagO q xs m k).length (lagO q xs m k) ∧ OwnI wx B (.slice (some ⟨B, 0, none⟩) n n) n (lagOut q xs ys n m) ∧ Below B w wx) (fun _ _ i _ => n - (intOf i).toNat)
      case atStart => exact ⟨0, by omega, rfl, rfl, hone, hown1, hbl1⟩
      case round =>
        clear hone hown1 hbl1 hle0
        obtain ⟨k, hk, rfl, rfl, ho, hout, hbl⟩ := hrel
        obtain ⟨wm, hwm⟩ : ∃ wm, wm = wr := ⟨_, rfl⟩
        subst hwm
        by_cases hlk : k < n
        · by_cases hkm : k = m
          · have h1 : lagO q xs m (k + 1) = lagO q xs m k := by rw [lagO, if_pos hkm]
            have h2 : lagS q xs m (k + 1) = lagS q xs m k := by rw [lagS, if_pos hkm]
            have H1 := Lib.hid h1
            have H2 := Lib.hid h2
            have hd1 : ((k : Int) == (m : Int)) = true := by simp; omega
            have hd2 : (k == m) = true := by simpa using hkm
            clear h1 h2 hkm
            go_wp2
            go_roundw
            case rel => exact ⟨k + 1, by omega, by go_num, by rw [H2.out], by rw [H1.out]; exact ho, hout, hbl⟩
            case measure => simp [intOf]; omega
          · have h1 : lagO q xs m (k + 1) = mulN q (q - xs.getD k 0) (lagO q xs m k) (lagO q xs m k).length := by rw [lagO, if_neg hkm]
            have h2 : lagS q xs m (k + 1) = lagS q xs m k * ((xs.getD m 0 - xs.getD k 0 + q) % q) % q := by rw [lagS, if_neg hkm]
            have hol := lagO_length q xs m k
            have hoe := lagO_elem (q := q) hq1 xs m k
            have hsb := lagS_bd (q := q) hq1 xs m k
            have hd1 : ((k : Int) == (m : Int)) = false := by simp; omega
            have hd2 : (k == m) = false := by simpa using hkm
            have hol1 : 1 ≤ (lagO q xs m k).length ∧ (lagO q xs m k).length ≤ 32 := by rw [hol]; split <;> omega
            generalize lagO q xs m k = one at *
            generalize lagS q xs m k = sc at *
            generalize hL : one.length = L at *
            obtain ⟨hol1, hol2⟩ := hol1
            obtain ⟨hsb1, hsb2⟩ := hsb
            obtain ⟨g, cap, rfl, hg, hg'⟩ := ho.form hol1
            have hAw := hA0.below (hbl.mono (by rw [HB.out]; exact Nat.le_refl _))
            obtain ⟨gx, ox, hAe, hgx, hcx⟩ := hAw.all (by rw [HX.out]; omega)
            subst hAe
            have hcxk := hcx k (by rw [HX.out]; exact hlk)
            have hcxm := hcx m (by rw [HX.out]; exact hlt)
            have gk : xs.getD k 0 = xs[k]'(by rw [HX.out]; exact hlk) := by simp [List.getD, show k < xs.length by rw [HX.out]; exact hlk]
            have gm : xs.getD m 0 = xs[m]'(by rw [HX.out]; exact hlt) := by simp [List.getD, show m < xs.length by rw [HX.out]; exact hlt]
            have bk := elem_get hx (k := k) (by rw [HX.out]; exact hlk)
            have bm := elem_get hx (k := m) (by rw [HX.out]; exact hlt)
            rw [gk] at h1 h2
            rw [gm] at h2
            generalize xs[k]'(by rw [HX.out]; exact hlk) = xk at *
            generalize xs[m]'(by rw [HX.out]; exact hlt) = xm at *
            have H1 := Lib.hid h1
            have H2 := Lib.hid h2
            have HLL := Lib.hid hL
            obtain ⟨bk1, bk2⟩ := bk
            obtain ⟨bm1, bm2⟩ := bm
            clear h1 h2 hL hol hkm gk gm hcx hAw
            have hgl := (ho.lt g rfl).2
            have hOl2 := (hout.lt B rfl).2
            go_wp2_with (at_make; refine wpList_makeInts _ rfl _ _ rfl wm.heap.size _ _ (L + 1) rfl rfl (by omega) (by omega) (by omega) (Nat.le_refl _) ?_)
            intro w2 hn2 hgr2
            have hbl2 := hbl.grown hgr2 (by have := hbl.size; omega) (by intro k hk; cases hk)
            have ho2 := ho.fr (fr_of_grown (S := []) hgr2 (by intro k hk; cases hk)) (by simp)
            have hout2 := hout.fr (fr_of_grown (S := []) hgr2 (by intro k hk; cases hk)) (by simp)
            have hcxk2 := (fr_of_grown (S := []) hgr2 (by intro k hk; cases hk)).below.cell (p := ⟨gx, ox + k, none⟩) hgx |>.trans hcxk
            have hcxm2 := (fr_of_grown (S := []) hgr2 (by intro k hk; cases hk)).below.cell (p := ⟨gx, ox + m, none⟩) hgx |>.trans hcxm
            have hwl := hgr2.size
            generalize hG : wm.heap.size = G at *
            have hGl := (hn2.lt G rfl).2
            clear hG hgr2 ho hout hbl hcxk hcxm
            have hn2 : OwnI w2 G (.slice (some ⟨G, 0, none⟩) (L + 1) (L + 1)) (L + 1) (mulN q (q - xk) one 0) := by rw [mulN, HLL.out]; exact hn2
            go_wp2
            go_loopw [13] (fun j wz => ∃ jj : Nat, jj ≤ L ∧ j = .int .i64 jj ∧ OwnI wz G (.slice (some ⟨G, 0, none⟩) (L + 1) (L + 1)) (L + 1) (mulN q (q - xk) one jj) ∧ Fr [G] w2 wz) (fun j _ => L - (intOf j).toNat)
            case atStart => exact ⟨0, by omega, rfl, hn2, Fr.refl _ _⟩
            case round =>
              clear hn2
              obtain ⟨j, hj, rfl, hn, hfr⟩ := hrel
              by_cases hlj : j < L
              · have hml := mulN_length q (q - xk) one j
                rw [HLL.out] at hml
                have hme := mulN_elem (q := q) (by omega) (q - xk) one j
                have hms : mulN q (q - xk) one (j + 1) = ((mulN q (q - xk) one j).set j (((mulN q (q - xk) one j).getD j 0 + one.getD j 0 * (q - xk)) % q)).set (j + 1) (((mulN q (q - xk) one j).getD (j + 1) 0 + one.getD j 0) % q) := rfl
                have c1 := hn.get (k := j) (by omega)
                have c2 := hn.get (k := j + 1) (by omega)
                have c3 := (ho2.fr hfr (by intro b hb hm; simp only [Value.ownBlock, Option.some.injEq] at hb; simp at hm; omega)).get (k := j) (by rw [HLL.out]; exact hlj)
                have c4 := (World.cell?_of_block (a := ⟨gx, ox + k, none⟩) (hfr.block gx (by omega) (by simp; omega))).trans hcxk2
                have b1 := elem_get hme (k := j) (by omega)
                have b2 := elem_get hme (k := j + 1) (by omega)
                have b3 := elem_get hoe (k := j) (by rw [HLL.out]; exact hlj)
                have g1 : (mulN q (q - xk) one j).getD j 0 = (mulN q (q - xk) one j)[j]'(by omega) := by simp [List.getD, show j < (mulN q (q - xk) one j).length by omega]
                have g2 : (mulN q (q - xk) one j).getD (j + 1) 0 = (mulN q (q - xk) one j)[j + 1]'(by omega) := by simp [List.getD, show j + 1 < (mulN q (q - xk) one j).length by omega]
                have g3 : one.getD j 0 = one[j]'(by rw [HLL.out]; exact hlj) := by simp [List.getD, show j < one.length by rw [HLL.out]; exact hlj]
                rw [g1, g2, g3] at hms
                generalize (mulN q (q - xk) one j)[j]'(by omega) = a at *
                generalize (mulN q (q - xk) one j)[j + 1]'(by omega) = b at *
                generalize one[j]'(by rw [HLL.out]; exact hlj) = o at *
                have HMS := Lib.hid hms
                obtain ⟨b11, b12⟩ := b1
                obtain ⟨b21, b22⟩ := b2
                obtain ⟨b31, b32⟩ := b3
                have p1 : 0 ≤ o * (q - xk) := Int.mul_nonneg b31 (by omega)
                have p2 : o * (q - xk) ≤ 31 * 31 := Int.mul_le_mul (by omega) (by omega) (by omega) (by omega)
                have p3 : 0 ≤ (a + o * (q - xk)) % q := Int.emod_nonneg _ (by omega)
                have p4 : (a + o * (q - xk)) % q < q := Int.emod_lt_of_pos _ (by omega)
                have f1 := hn.frozen j
                have f2 := hn.frozen (j + 1)
                have hn3 := (hn.set j ((a + o * (q - xk)) % q)).set (j + 1) ((b + o) % q)
                have i0 : (0 : Int) ≤ (j : Int) := by omega
                have i1 : (j : Int) < (L : Int) + 1 := by omega
                have i2 : (j : Int) < (L : Int) := by omega
                have i3 : (k : Int) < (n : Int) := by omega
                have i4 : (0 : Int) ≤ (k : Int) := by omega
                have hq0 : ¬ q = 0 := by omega
                have w1 : IntKind.i64.wrap (q - xk) = q - xk := IntWalk.i64_in _ (by omega)
                have w2' : IntKind.i64.wrap (o * (q - xk)) = o * (q - xk) := IntWalk.i64_in _ (by omega)
                have w3 : IntKind.i64.wrap (a + o * (q - xk)) = a + o * (q - xk) := IntWalk.i64_in _ (by omega)
                have w4 : (a + o * (q - xk)).tmod q = (a + o * (q - xk)) % q := Int.tmod_eq_emod_of_nonneg (by omega)
                clear hms g1 g2 g3 hml hme
                go_wp2
                go_still_tail 21, (by kernel_rfl)
                change wpList _ _ _ _ _ wr.drew
                clear w1 w2' w3 w4
                go_wp2
                have hfrA := (hfr.set ⟨G, j, none⟩ (.inl (by simp)) (.int .i64 ((a + o * (q - xk)) % q)))
                have d2 : ((wr.setCell ⟨G, j, none⟩ (.int .i64 ((a + o * (q - xk)) % q))).drew).cell? ⟨G, j + 1, none⟩ = some (.int .i64 b) := (World.cell?_setCell_other _ ⟨G, j, none⟩ ⟨G, j + 1, none⟩ _ (by simp)).trans c2
                have d3 : ((wr.setCell ⟨G, j, none⟩ (.int .i64 ((a + o * (q - xk)) % q))).drew).cell? ⟨g, j, none⟩ = some (.int .i64 o) := (World.cell?_setCell_far _ _ _ _ (by simp; omega)).trans c3
                have f2' : ((wr.setCell ⟨G, j, none⟩ (.int .i64 ((a + o * (q - xk)) % q))).drew).frozen? ⟨G, j + 1, none⟩ = false := (hn.set j ((a + o * (q - xk)) % q)).frozen (j + 1)
                generalize hu : (a + o * (q - xk)) % q = u at *
                have HU := Lib.hid hu
                clear hu c1 c2 c3 c4 f1 f2 p1 p2
                generalize hWs : (wr.setCell ⟨G, j, none⟩ (.int .i64 u)).drew = ws at *
                have w5 : IntKind.i64.wrap ((j : Int) + 1) = (j : Int) + 1 := IntWalk.i64_in _ (by omega)
                have w6 : IntKind.i64.wrap (b + o) = b + o := IntWalk.i64_in _ (by omega)
                have w7 : (b + o).tmod q = (b + o) % q := Int.tmod_eq_emod_of_nonneg (by omega)
                have w8 : ((j : Int) + 1).toNat = j + 1 := by omega
                have i5 : (0 : Int) ≤ (j : Int) + 1 := by omega
                have i6 : (j : Int) + 1 < (L : Int) + 1 := by omega
                go_still_tail 16, (by kernel_rfl)
                change wpList _ _ _ _ _ ws.drew
                clear w5 w6 w7 w8
                have hn4 : OwnI (ws.setCell ⟨G, j + 1, none⟩ (.int .i64 ((b + o) % q))).drew G (.slice (some ⟨G, 0, none⟩) (L + 1) (L + 1)) (L + 1) (mulN q (q - xk) one (j + 1)) := by
                  rw [HMS.out, ← hWs]; exact hn3
                have hfr4 : Fr [G] w2 (ws.setCell ⟨G, j + 1, none⟩ (.int .i64 ((b + o) % q))).drew := by
                  rw [← hWs]; exact ((hfrA.drew).set ⟨G, j + 1, none⟩ (.inl (by simp)) _).drew
                clear hn3 hfrA hWs hn hfr
                go_wp2
                go_roundw
                case rel => exact ⟨j + 1, by omega, by go_num, hn4, hfr4⟩
                case measure => simp [intOf]; omega
              · obtain rfl : j = L := by omega
                have c5 := (World.cell?_of_block (a := ⟨gx, ox + k, none⟩) (hfr.block gx (by omega) (by simp; omega))).trans hcxk2
                have c6 := (World.cell?_of_block (a := ⟨gx, ox + m, none⟩) (hfr.block gx (by omega) (by simp; omega))).trans hcxm2
                have hnF : OwnI wr (B + 1) (.slice (some ⟨G, 0, none⟩) (j + 1) (j + 1)) (lagO q xs m (k + 1)).length (lagO q xs m (k + 1)) := by
                  rw [H1.out, mulN_length, HLL.out]
                  exact hn.mono (by omega)
                have houtF := hout2.fr hfr (by intro b hb hm; simp only [Value.ownBlock, Option.some.injEq] at hb; simp at hm; omega)
                have hblF := hbl2.trans (hfr.belowOf (B := B) (by omega) (by simp; omega))
                have hq0 : ¬ q = 0 := by omega
                have i3 : (k : Int) < (n : Int) := by omega
                have i4 : (0 : Int) ≤ (k : Int) := by omega
                have i5 : (m : Int) < (n : Int) := by omega
                have i6 : (0 : Int) ≤ (m : Int) := by omega
                have e0 : 0 ≤ xm - xk + q := by omega
                have e1 : 0 ≤ (xm - xk) % q := Int.emod_nonneg _ (by omega)
                have e2 : (xm - xk) % q < q := Int.emod_lt_of_pos _ (by omega)
                have e3 : 0 ≤ sc * ((xm - xk) % q) := Int.mul_nonneg hsb1 e1
                have e4 : sc * ((xm - xk) % q) ≤ 31 * 31 := Int.mul_le_mul (by omega) (by omega) (by omega) (by omega)
                have w1 : IntKind.i64.wrap (xm - xk) = xm - xk := IntWalk.i64_in _ (by omega)
                have w2' : IntKind.i64.wrap (xm - xk + q) = xm - xk + q := IntWalk.i64_in _ (by omega)
                have w3 : (xm - xk + q).tmod q = (xm - xk) % q := by rw [Int.tmod_eq_emod_of_nonneg (by omega)]; simp
                have w4 : IntKind.i64.wrap (sc * ((xm - xk) % q)) = sc * ((xm - xk) % q) := IntWalk.i64_in _ (by omega)
                have w5 : (sc * ((xm - xk) % q)).tmod q = sc * ((xm - xk) % q) % q := Int.tmod_eq_emod_of_nonneg (by omega)
                have w6 : (xm - xk + q) % q = (xm - xk) % q := by simp
                have W6 := Lib.hid w6
                clear w6
                clear hn hfr hout2 ho2 hcxk2 hcxm2 hbl2
                go_wp2
                go_quiet (fail)
                go_wp2
                go_roundw
                case rel => exact ⟨k + 1, by omega, by go_num, by rw [H2.out, W6.out], hnF.drewN _, houtF.drewN _, hblF.drewN _⟩
                case measure => simp [intOf]; omega
        · obtain rfl : k = n := by omega
          have hol := lagO_length q xs m k
          rw [if_pos hlt] at hol
          have hoe := lagO_elem (q := q) hq1 xs m k
          have hsb := lagS_bd (q := q) hq1 xs m k
          have hsu := lagS_unit (primeB_pr hq) xs m k (fun a ha hne => nodup_dist hx HND.out (by rw [HX.out]; exact hlt) (by rw [HX.out]; exact ha) hne) k (Nat.le_refl _)
          have hs1 : 1 ≤ lagS q xs m k := by
            rcases Int.lt_or_le 0 (lagS q xs m k) with h | h
            · omega
            · exact absurd (by rw [show lagS q xs m k = 0 by omega]; exact ⟨0, by simp⟩) hsu
          have hms : lagOut q xs ys k (m + 1) = addN q (lagF q xs ys k m) (lagO q xs m k) (lagOut q xs ys k m) (lagO q xs m k).length := rfl
          have hlf : lagF q xs ys k m = ys.getD m 0 * pw q (lagS q xs m k) (q - 2).toNat % q := rfl
          have houl := lagOut_length q xs ys k m
          have houe := lagOut_elem (q := q) (by omega) xs ys k m
          rw [hol] at hms ho
          have hCw := hC.below (hbl.mono (by rw [HB.out]; exact Nat.le_refl _))
          obtain ⟨gy, oy, hCe, hgy, hcy⟩ := hCw.all (by rw [HY.out]; omega)
          subst hCe
          have hcym := hcy m (by rw [HY.out]; exact hlt)
          have gm : ys.getD m 0 = ys[m]'(by rw [HY.out]; exact hlt) := by simp [List.getD, show m < ys.length by rw [HY.out]; exact hlt]
          have bm := elem_get hy (k := m) (by rw [HY.out]; exact hlt)
          rw [gm] at hlf
          generalize ys[m]'(by rw [HY.out]; exact hlt) = ym at *
          have c33 : ∀ W, Calls Try.prog 33 #[.int .i64 q, .int .i64 (lagS q xs m k)] W fun e w' => e = .returned (.int .i64 (pw q (lagS q xs m k) (q - 2).toNat)) ∧ w' = W := fun W => refInverse_any q _ W hq ⟨hs1, hsb.2⟩
          have hpb := pw_bd (q := q) (a := lagS q xs m k) hq1 (q - 2).toNat
          generalize pw q (lagS q xs m k) (q - 2).toNat = iv at *
          generalize lagS q xs m k = sc at *
          generalize lagF q xs ys k m = ff at *
          generalize lagO q xs m k = one at *
          obtain ⟨g, cap, rfl, hg, hg'⟩ := ho.form (by omega)
          obtain ⟨bm1, bm2⟩ := bm
          obtain ⟨hpb1, hpb2⟩ := hpb
          have p1 : 0 ≤ ym * iv := Int.mul_nonneg bm1 hpb1
          have p2 : ym * iv ≤ 31 * 31 := Int.mul_le_mul (by omega) (by omega) (by omega) (by omega)
          have hq0 : ¬ q = 0 := by omega
          have HLF := Lib.hid hlf
          have HMS := Lib.hid hms
          have HOL := Lib.hid hol
          have HUL := Lib.hid houl
          have i5 : (m : Int) < (k : Int) := by omega
          have i6 : (0 : Int) ≤ (m : Int) := by omega
          have w1 : IntKind.i64.wrap (ym * iv) = ym * iv := IntWalk.i64_in _ (by omega)
          have w3 : (ym * iv).tmod q = ym * iv % q := Int.tmod_eq_emod_of_nonneg (by omega)
          have hf1 : 0 ≤ ym * iv % q := Int.emod_nonneg _ (by omega)
          have hf2 : ym * iv % q < q := Int.emod_lt_of_pos _ (by omega)
          clear hlf hms hol houl gm hcy hCw hsu hs1 hsb
          go_wp2
          go_quiet ((go_at_call 33; exact Calls.quiet_of_same (c33 _)))
          clear w1 w3 c33
          rw [← HLF.out] at hf1 hf2 ⊢
          rename_i nq _
          have hout1 := hout.drewN nq
          have ho1 := ho.drewN nq
          have hbl1 := hbl.drewN nq
          have hOl2 := (hout1.lt B rfl).2
          have hgl := (ho1.lt g rfl).2
          generalize wm.drewN nq = wn at *
          clear hout ho hbl hcym
          go_wp2
          go_loopw [15] (fun j wz => ∃ jj : Nat, jj ≤ k ∧ j = .int .i64 jj ∧ OwnI wz B (.slice (some ⟨B, 0, none⟩) k k) k (addN q ff one (lagOut q xs ys k m) jj) ∧ Fr [B] wn wz) (fun j _ => k - (intOf j).toNat)
          case atStart => exact ⟨0, by omega, rfl, hout1, Fr.refl _ _⟩
          case round =>
            clear hout1
            obtain ⟨j, hj, rfl, hn, hfr⟩ := hrel
            by_cases hlj : j < k
            · have hml := addN_length q ff one (lagOut q xs ys k m) j
              rw [HUL.out] at hml
              have hme := addN_elem (q := q) (by omega) ff one houe j
              have hms : addN q ff one (lagOut q xs ys k m) (j + 1) = (addN q ff one (lagOut q xs ys k m) j).set j (((addN q ff one (lagOut q xs ys k m) j).getD j 0 + one.getD j 0 * ff) % q) := rfl
              have c1 := hn.get (k := j) (by omega)
              have c3 := (ho1.fr hfr (by intro b hb hm; simp only [Value.ownBlock, Option.some.injEq] at hb; simp at hm; omega)).get (k := j) (by rw [HOL.out]; exact hlj)
              have b1 := elem_get hme (k := j) (by omega)
              have b3 := elem_get hoe (k := j) (by rw [HOL.out]; exact hlj)
              have g1 : (addN q ff one (lagOut q xs ys k m) j).getD j 0 = (addN q ff one (lagOut q xs ys k m) j)[j]'(by omega) := by simp [List.getD, show j < (addN q ff one (lagOut q xs ys k m) j).length by omega]
              have g3 : one.getD j 0 = one[j]'(by rw [HOL.out]; exact hlj) := by simp [List.getD, show j < one.length by rw [HOL.out]; exact hlj]
              rw [g1, g3] at hms
              generalize (addN q ff one (lagOut q xs ys k m) j)[j]'(by omega) = a at *
              generalize one[j]'(by rw [HOL.out]; exact hlj) = o at *
              have HMS2 := Lib.hid hms
              obtain ⟨b11, b12⟩ := b1
              obtain ⟨b31, b32⟩ := b3
              have p3 : 0 ≤ o * ff := Int.mul_nonneg b31 (by omega)
              have p4 : o * ff ≤ 31 * 31 := Int.mul_le_mul (by omega) (by omega) (by omega) (by omega)
              have f1 := hn.frozen j
              have hn3 := hn.set j ((a + o * ff) % q)
              have hfr3 := hfr.set ⟨B, j, none⟩ (.inl (by simp)) (.int .i64 ((a + o * ff) % q))
              have i0 : (0 : Int) ≤ (j : Int) := by omega
              have i1 : (j : Int) < (k : Int) := by omega
              have w2' : IntKind.i64.wrap (o * ff) = o * ff := IntWalk.i64_in _ (by omega)
              have w3 : IntKind.i64.wrap (a + o * ff) = a + o * ff := IntWalk.i64_in _ (by omega)
              have w4 : (a + o * ff).tmod q = (a + o * ff) % q := Int.tmod_eq_emod_of_nonneg (by omega)
              clear hms g1 g3 hml hme
              go_wp2
              go_still_tail 16, (by kernel_rfl)
              change wpList _ _ _ _ _ wr.drew
              clear w2' w3 w4
              have hn4 : OwnI (wr.setCell ⟨B, j, none⟩ (.int .i64 ((a + o * ff) % q))).drew B (.slice (some ⟨B, 0, none⟩) k k) k (addN q ff one (lagOut q xs ys k m) (j + 1)) := by
                rw [HMS2.out]; exact hn3
              have hfr4 := hfr3.drew
              clear hn3 hfr3 hn hfr
              go_wp2
              go_roundw
              case rel => exact ⟨j + 1, by omega, by go_num, hn4, hfr4⟩
              case measure => simp [intOf]; omega
            · obtain rfl : j = k := by omega
              have hblF := hbl1.trans (hfr.belowOf (B := B) (by omega) (by simp))
              go_wp2
              go_roundw
              case rel => exact ⟨m + 1, by omega, by go_num, by rw [HMS.out]; exact hn, hblF⟩
              case measure => simp [intOf]; omega
    · obtain rfl : m = n := by omega
      have hol := lagOut_length q xs ys m m
      have HOL := Lib.hid hol
      clear hol
      go_wp2
      go_ret
      exact ⟨_, rfl, by rw [HOL.out, HB.out]; exact hown, by rw [HB.out]; exact hbl⟩
end Go.Proofs.Ytneliejncfncdaa
