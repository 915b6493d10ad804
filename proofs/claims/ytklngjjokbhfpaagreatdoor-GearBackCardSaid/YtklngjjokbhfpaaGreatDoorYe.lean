/- ref's Parse (printed by genye.py). -/
import Derived.Test.YtklngjjokbhfpaaGreatDoorYd
import Derived.Test.YtklngjjokbhfpaaGreatDoorYg
namespace Go.Proofs.YtklngjjokbhfpaaGreatDoor
open Go.RowKit Go.Lib

theorem ext_take (R : List UInt8) (k : Nat) : (⟨R.toArray⟩ : ByteArray).extract 0 k = ⟨(R.take k).toArray⟩ := by
  apply ByteArray.ext
  simp [ByteArray.data_extract]
theorem ext_drop (R : List UInt8) (k : Nat) : (⟨R.toArray⟩ : ByteArray).extract k R.length = ⟨(R.drop k).toArray⟩ := by
  apply ByteArray.ext
  simp [ByteArray.data_extract]
  exact List.take_of_length_le (by simp)
theorem rrest_len (l : List UInt8) : (rrest l).length ≤ l.length := by
  unfold rrest
  split
  · simp
  · exact Nat.le_refl _
theorem rcut_len (l : List UInt8) : rcut l ≤ (rrest l).length := List.findIdx_le_length
def slashM (R : List UInt8) (j : Nat) : Nat := j + (R.drop j).findIdx (· == 47)
theorem slashM_step (R : List UInt8) (m : Nat) (h : m < R.length) : slashM R m = if R[m] = 47 then m else slashM R (m + 1) := by
  unfold slashM
  rw [List.drop_eq_getElem_cons h, List.findIdx_cons]
  by_cases h47 : R[m] = 47
  · rw [if_pos h47, h47]; simp
  · have e : (R[m] == 47) = false := beq_eq_false_iff_ne.2 h47
    rw [if_neg h47, e]
    simp only [cond_false]
    omega
theorem smallV_nat (n : Nat) : smallV (n : Int) = .tuple #[.int .i64 (smallN n), .bool (decide (n ≤ 4611686018427387904))] := by
  unfold smallV smallN
  by_cases h : n ≤ 4611686018427387904
  · rw [if_pos (by omega), if_pos h, decide_eq_true h]
  · rw [if_neg (by omega), if_neg h, decide_eq_false h]
set_option maxRecDepth 100000 in
set_option maxHeartbeats 6400000 in
theorem rparse_any (l : List UInt8) (w : World) (hl : l.length ≤ 100) : Calls Tryz.prog 13 #[.string ⟨l.toArray⟩] w (RetP (rparseM l) w) := by
  have hrl := rrest_len l
  have hcl := rcut_len l
  obtain ⟨W3, hW3⟩ : ∃ W3, W3 = (w.alloc (.cells #[.int .i64 0, .int .i64 0] 23)).alloc (.cells #[.int .i64 0, .int .i64 0] 23) := ⟨_, rfl⟩
  have hB : Below w.heap.size w W3 := by rw [hW3]; exact ((Below.refl _ _).alloc (Nat.le_refl _) _).alloc (by simp) _
  have HB := Lib.hid hB
  have HR := Lib.hid (show Two W3 w.heap.size (.int .i64 0) (.int .i64 0) 23 by rw [hW3]; exact (Two.newAt _ _ _ _ _ rfl).alloc _)
  have HZ := Lib.hid (show Two W3 (w.heap.size + 1) (.int .i64 0) (.int .i64 0) 23 by rw [hW3]; exact Two.newAt _ _ _ _ _ (by simp))
  have HL := Lib.hid (And.intro hl (And.intro hrl hcl))
  clear hB hrl hcl
  go_enter Tryz.func13, Tryz.ntmps13
  go_upto_region 3 with fail
  rw [← hW3]
  clear hW3
  go_cut [27] (fun s27 wx => s27 = .bool (rneg l) ∧ wx = W3)
  case first =>
    cases l with
    | nil =>
      go_wp2_with fail
      go_meet
      exact ⟨rfl, rfl⟩
    | cons c r =>
      obtain ⟨q, hq'⟩ : ∃ q, c.toNat = q := ⟨_, rfl⟩
      have hq : ((⟨(c :: r).toArray⟩ : ByteArray)[0]'(by show 0 < (c :: r).toArray.size; simp)).toNat = q := hq'
      have HQ := Lib.hid hq'
      clear hq'
      go_wp2_with fail
      go_meet
      refine ⟨?_, rfl⟩
      have e : rneg (c :: r) = ((q : Int) == 45) := by
        unfold rneg
        rw [← HQ.out, List.head?_cons, Bool.eq_iff_iff]
        simp only [beq_iff_eq, Option.some.injEq]
        constructor
        · rintro rfl; rfl
        · intro h; exact UInt8.toNat_inj.1 (by show c.toNat = 45; omega)
      rw [e]
  case rest =>
    obtain ⟨rfl, rfl⟩ := hcut
    refine ‹∀ (a : Act) (w' : World), Code.wp Tryz.prog (Code.cond _ _ _) _ a w' → _› _ _ ?_
    go_cut [5, 6] (fun s5 s6 wx => s5 = .string ⟨(rrest l).toArray⟩ ∧ s6 = .bool (rneg l) ∧ wx = wc)
    case first =>
      by_cases hn : rneg l = true
      · have hl1 : 1 ≤ l.length := by
          cases l with
          | nil => cases hn
          | cons c r => simp
        have hl2 : (1 : Int) ≤ (l.length : Int) := by omega
        have e := ext_drop l 1
        have e2 : rrest l = l.drop 1 := by unfold rrest; rw [hn]; rfl
        rw [hn]
        have E2 := Lib.hid e2
        clear e2
        go_wp2_with fail
        go_meet
        exact ⟨by rw [E2.out]; simp, by rw [hn], rfl⟩
      · have hn' : rneg l = false := by simpa using hn
        have e2 : rrest l = l := by unfold rrest; rw [hn']; rfl
        rw [hn']
        have E2 := Lib.hid e2
        clear hn e2
        go_wp2_with fail
        go_meet
        exact ⟨by rw [E2.out], by rw [hn'], rfl⟩
    case rest =>
      obtain ⟨rfl, rfl, rfl⟩ := hcut
      obtain ⟨ng, hng⟩ : ∃ ng : Bool × Unit, rneg l = ng.1 := ⟨(_, ()), rfl⟩
      obtain ⟨R, hR0⟩ : ∃ R, rrest l = R := ⟨_, rfl⟩
      obtain ⟨k0, hk0⟩ : ∃ k0, rcut l = k0 := ⟨_, rfl⟩
      obtain ⟨a, ha⟩ : ∃ a, R.take k0 = a := ⟨_, rfl⟩
      obtain ⟨b, hb⟩ : ∃ b, R.drop (k0 + 1) = b := ⟨_, rfl⟩
      obtain ⟨nz, hnz⟩ : ∃ nz, (numM a).1 = nz := ⟨_, rfl⟩
      obtain ⟨nf, hnf⟩ : ∃ nf : Bool × Unit, (numM a).2 = nf.1 := ⟨(_, ()), rfl⟩
      obtain ⟨dz, hdz⟩ : ∃ dz, (rden l).1 = dz := ⟨_, rfl⟩
      obtain ⟨df, hdf⟩ : ∃ df : Bool × Unit, (rden l).2 = df.1 := ⟨(_, ()), rfl⟩
      have HL2 := Lib.hid (show l.length ≤ 100 ∧ R.length ≤ l.length ∧ k0 ≤ R.length by rw [← hR0, ← hk0]; exact HL.out)
      have HK := Lib.hid (show R.findIdx (· == 47) = k0 by rw [← hk0, ← hR0]; rfl)
      have HDL := Lib.hid (show k0 < R.length → (numM b).1 = dz ∧ (numM b).2 = df.1 from fun h => by
        rw [← hdz, ← hdf]
        unfold rden
        rw [hk0, hR0, if_pos h, hb]
        exact ⟨rfl, rfl⟩)
      have HDN := Lib.hid (show ¬ k0 < R.length → dz = 1 ∧ df.1 = true from fun h => by
        rw [← hdz, ← hdf]
        unfold rden
        rw [hk0, hR0, if_neg h]
        exact ⟨rfl, rfl⟩)
      have hrn : rnum l = numM a := by unfold rnum; rw [hR0, hk0, ha]
      have HOK := Lib.hid (show rok l ↔ (nf.1 = true ∧ df.1 = true ∧ nz ≤ 4611686018427387904 ∧ dz ≤ 4611686018427387904) by unfold rok; rw [hrn, hnz, hnf, hdz, hdf])
      have HCA := Lib.hid (show rcand l = (if ng.1 then -smallN nz else smallN nz, smallN dz) by unfold rcand; rw [hrn, hnz, hdz, hng])
      have HA := Lib.hid ha
      have HB0 := Lib.hid hb
      have HNZ := Lib.hid (And.intro hnz hnf)
      rw [hng, hR0]
      have b3 : (R.length : Int) ≤ 100 := by have := HL2.out; omega
      clear hrn hR0 hk0 ha hb hnz hnf hdz hdf hng HL hl
      go_wp2_with fail
      go_loopw [7, 8] (fun s i wr => ∃ (j : Nat) (i' : Int), j ≤ R.length ∧ i = .int .i64 i' ∧ i' = (j : Int) - 1 ∧ s = .int .i64 (slashM R j : Nat) ∧ Two wr w.heap.size (.int .i64 0) (.int .i64 0) 23 ∧ Two wr (w.heap.size + 1) (.int .i64 0) (.int .i64 0) 23 ∧ Below w.heap.size w wr) (fun _ i _ => (RowKit.intOf i + 1).toNat)
      case atStart => exact ⟨R.length, _, Nat.le_refl _, rfl, rfl, by simp [slashM], HR.out, HZ.out, HB.out⟩
      case round =>
        clear HR HZ HB
        obtain ⟨j, i', hj, rfl, hi, rfl, hR, hZ, hB⟩ := hrel
        have HR := Lib.hid hR
        have HZ := Lib.hid hZ
        have HB := Lib.hid hB
        clear hR hZ hB
        rcases j with _ | m
        · obtain rfl : i' = -1 := by omega
          have hs0 : slashM R 0 = k0 := by rw [← HK.out]; simp [slashM]
          rw [hs0]
          clear hi hj hs0
          have b1 : (k0 : Int) ≤ (R.length : Int) := by have := HL2.out; omega
          have b2 : k0 ≤ R.length := by have := HL2.out; omega
          have e1 : (⟨R.toArray⟩ : ByteArray).extract 0 k0 = ⟨a.toArray⟩ := by rw [← HA.out]; exact ext_take R k0
          have cn := rnumber_any a wr (by rw [← HA.out, List.length_take]; have := HL2.out; omega)
          unfold RetN at cn
          rw [HNZ.out.1, HNZ.out.2] at cn
          go_wp2_with fail
          refine cn.mono ?_
          rintro e V1 ⟨v1, rfl, hm, hn1⟩
          obtain ⟨neg1, A1, n1, c1, m1, rfl, -⟩ := IsR.open' hm
          obtain ⟨p1, rfl⟩ : ∃ p : Bool × Unit, neg1 = p.1 := ⟨(_, ()), rfl⟩
          have HB1 := Lib.hid (HB.out.trans (hn1.mono HB.out.size))
          have HR1 := Lib.hid (HR.out.below hn1 HR.out.lt)
          have HZ1 := Lib.hid (HZ.out.below hn1 HZ.out.lt)
          have HM := Lib.hid hm
          clear cn hn1 hm HB HR HZ e1
          obtain ⟨N, hN⟩ : ∃ N, N = V1.heap.size := ⟨_, rfl⟩
          obtain ⟨U, hU⟩ : ∃ U, U = V1.alloc (.cells #[.bool p1.1, .slice A1 n1 c1] 43) := ⟨_, rfl⟩
          have HU := Lib.hid (And.intro hU hN)
          clear hU hN
          go_upto_region 12 with fail
          rw [← HU.out.2, ← HU.out.1]
          have hu : Below V1.heap.size V1 U := by rw [HU.out.1]; exact (Below.refl _ _).alloc (Nat.le_refl _) _
          have HB2 := Lib.hid (HB1.out.trans (hu.mono HB1.out.size))
          have HR2 := Lib.hid (HR1.out.below hu HR1.out.lt)
          have HZ2 := Lib.hid (HZ1.out.below hu HZ1.out.lt)
          have HN2 := Lib.hid (show Two U N (.bool p1.1) (.slice A1 n1 c1) 43 by rw [HU.out.1]; exact Two.newAt _ _ _ _ _ HU.out.2)
          have HM2 := Lib.hid (IsR.below HM.out hu)
          have HNl := Lib.hid (show w.heap.size + 1 < N by rw [HU.out.2]; exact HZ1.out.lt)
          clear hu HU HB1 HR1 HZ1 HM
          have ci : Calls Tryz.prog 20 #[.int .i64 1] U (RetR 1 5 U) := rint_any 1 U (by unfold I64; omega)
          go_wp2_with fail
          refine ci.mono ?_
          rintro e V2 ⟨v2, rfl, hm, hn2⟩
          obtain ⟨neg2, A2, n2, c2, m2, rfl, -⟩ := IsR.open' hm
          obtain ⟨p2, rfl⟩ : ∃ p : Bool × Unit, neg2 = p.1 := ⟨(_, ()), rfl⟩
          have HB3 := Lib.hid (HB2.out.trans (hn2.mono HB2.out.size))
          have HR3 := Lib.hid (HR2.out.below hn2 HR2.out.lt)
          have HZ3 := Lib.hid (HZ2.out.below hn2 HZ2.out.lt)
          have HN3 := Lib.hid (HN2.out.below hn2 HN2.out.lt)
          have HM3 := Lib.hid (IsR.below HM2.out hn2)
          have HO := Lib.hid (IsR.more hm (show 5 ≤ 25 by omega))
          clear ci hn2 hm HB2 HR2 HZ2 HN2 HM2
          obtain ⟨N2, hN⟩ : ∃ N2, N2 = V2.heap.size := ⟨_, rfl⟩
          obtain ⟨U2, hU⟩ : ∃ U2, U2 = V2.alloc (.cells #[.bool p2.1, .slice A2 n2 c2] 43) := ⟨_, rfl⟩
          have HU := Lib.hid (And.intro hU hN)
          clear hU hN
          go_upto_region 13 with fail
          rw [← HU.out.2, ← HU.out.1]
          have hu : Below V2.heap.size V2 U2 := by rw [HU.out.1]; exact (Below.refl _ _).alloc (Nat.le_refl _) _
          have HB4 := Lib.hid (HB3.out.trans (hu.mono HB3.out.size))
          have HR4 := Lib.hid (HR3.out.below hu HR3.out.lt)
          have HZ4 := Lib.hid (HZ3.out.below hu HZ3.out.lt)
          have HN4 := Lib.hid (HN3.out.below hu HN3.out.lt)
          have HM4 := Lib.hid (IsR.below HM3.out hu)
          have HD4 := Lib.hid (show Two U2 N2 (.bool p2.1) (.slice A2 n2 c2) 43 by rw [HU.out.1]; exact Two.newAt _ _ _ _ _ HU.out.2)
          have HO4 := Lib.hid (IsR.below HO.out hu)
          have HN2l := Lib.hid (show N < N2 by rw [HU.out.2]; exact HN3.out.lt)
          clear hu HU HB3 HR3 HZ3 HN3 HM3 HO
          go_cut [55] (fun s55 wx => s55 = .bool (decide (k0 < R.length)) ∧ wx = U2)
          case first =>
            go_wp2_with fail
            go_meet
            exact ⟨by simp, rfl⟩
          case rest =>
            obtain ⟨rfl, rfl⟩ := hcut
            refine ‹∀ (a : Act) (w' : World), Code.wp Tryz.prog (Code.cond _ _ _) _ a w' → _› _ _ ?_
            obtain ⟨wd, hwd⟩ : ∃ wd, wd = wc := ⟨_, rfl⟩
            go_cut [12] (fun s12 wx => ∃ (p : Bool × Unit) (A : Option Addr) (n c : Nat), s12 = .bool df.1 ∧ Two wx N2 (.bool p.1) (.slice A n c) 43 ∧ IsR wx (.agg #[.bool p.1, .slice A n c]) (dz : Int) 25 ∧ Two wx N (.bool p1.1) (.slice A1 n1 c1) 43 ∧ IsR wx (.agg #[.bool p1.1, .slice A1 n1 c1]) (nz : Int) 25 ∧ Two wx w.heap.size (.int .i64 0) (.int .i64 0) 23 ∧ Two wx (w.heap.size + 1) (.int .i64 0) (.int .i64 0) 23 ∧ Below w.heap.size w wx)
            case first =>
              by_cases hkl : k0 < R.length
              · have cn := rnumber_any b wc (by rw [← HB0.out, List.length_drop]; have := HL2.out; omega)
                obtain ⟨q1, q2⟩ := HDL.out hkl
                unfold RetN at cn
                rw [q1, q2] at cn
                have e1 : (⟨R.toArray⟩ : ByteArray).extract (k0 + 1) R.length = ⟨b.toArray⟩ := by rw [← HB0.out]; exact ext_drop R (k0 + 1)
                have b4 : (k0 : Int) + 1 ≤ (R.length : Int) := by omega
                have b5 : k0 + 1 ≤ R.length := by omega
                rw [decide_eq_true hkl]
                clear q1 q2 hwd
                go_wp2_with fail
                refine cn.mono ?_
                rintro e V3 ⟨v3, rfl, hm, hn3⟩
                obtain ⟨neg3, A3, n3, c3, m3, rfl, -⟩ := IsR.open' hm
                obtain ⟨p3, rfl⟩ : ∃ p : Bool × Unit, neg3 = p.1 := ⟨(_, ()), rfl⟩
                have HB5 := Lib.hid (HB4.out.trans (hn3.mono HB4.out.size))
                have HR5 := Lib.hid (HR4.out.below hn3 HR4.out.lt)
                have HZ5 := Lib.hid (HZ4.out.below hn3 HZ4.out.lt)
                have HN5 := Lib.hid (HN4.out.below hn3 HN4.out.lt)
                have HM5 := Lib.hid (IsR.below HM4.out hn3)
                have HD5 := Lib.hid (HD4.out.below hn3 HD4.out.lt)
                have HO5 := Lib.hid hm
                clear cn hn3 hm HB4 HR4 HZ4 HN4 HM4 HD4 HO4 e1
                have r0 := HD5.out.cell0
                have r1 := HD5.out.cell1
                have y0 := HD5.out.free 0
                have y1 := HD5.out.free 1
                go_wp2_with fail
                go_meet
                refine ⟨p3, A3, n3, c3, rfl, (HD5.out.set0 _).set1 _, IsR.stored' HO5.out HD5.out, ?_, IsR.stored' HM5.out HD5.out, ?_, ?_, ?_⟩
                · exact (HN5.out.setOther ⟨N2, 0, none⟩ _ (by dsimp only; have := HN2l.out; omega)).setOther ⟨N2, 1, none⟩ _ (by dsimp only; have := HN2l.out; omega)
                · exact (HR5.out.setOther ⟨N2, 0, none⟩ _ (by dsimp only; have := HN2l.out; have := HNl.out; omega)).setOther ⟨N2, 1, none⟩ _ (by dsimp only; have := HN2l.out; have := HNl.out; omega)
                · exact (HZ5.out.setOther ⟨N2, 0, none⟩ _ (by dsimp only; have := HN2l.out; have := HNl.out; omega)).setOther ⟨N2, 1, none⟩ _ (by dsimp only; have := HN2l.out; have := HNl.out; omega)
                · exact (HB5.out.setCell (by dsimp only; have := HN2l.out; have := HNl.out; omega) _).setCell (by dsimp only; have := HN2l.out; have := HNl.out; omega) _
              · obtain ⟨q1, q2⟩ := HDN.out hkl
                rw [decide_eq_false hkl]
                clear hwd
                go_wp2_with fail
                go_meet
                exact ⟨p2, A2, n2, c2, by rw [q2], HD4.out, by rw [q1]; exact HO4.out, HN4.out, HM4.out, HR4.out, HZ4.out, HB4.out⟩
            case rest =>
              clear HB4 HR4 HZ4 HN4 HM4 HD4 HO4 hwd
              obtain ⟨p, A, n, c, rfl, h1, h2, h3, h4, h5, h6, h7⟩ := hcut
              have HD := Lib.hid h1
              have HO := Lib.hid h2
              have HN5 := Lib.hid h3
              have HM := Lib.hid h4
              have HR := Lib.hid h5
              have HZ := Lib.hid h6
              have HB := Lib.hid h7
              clear h1 h2 h3 h4 h5 h6 h7
              cases hnf : nf.1
              · have HE := Lib.hid hnf
                clear hnf
                have r0 := HR.out.cell0
                have r1 := HR.out.cell1
                have y0 := HR.out.free 0
                have y1 := HR.out.free 1
                have q0 := HZ.out.cell0
                have q1 := HZ.out.cell1
                go_wp2
                obtain ⟨V9, hV9⟩ : ∃ V9, V9 = (wc.setCell ⟨w.heap.size, 0, none⟩ (.int .i64 0)).setCell ⟨w.heap.size, 1, none⟩ (.int .i64 0) := ⟨_, rfl⟩
                rw [← hV9]
                have hT : Two V9 w.heap.size (.int .i64 0) (.int .i64 0) 23 := by rw [hV9]; exact (HR.out.set0 _).set1 _
                have hB9 : Below w.heap.size w V9 := by rw [hV9]; exact (HB.out.setCell (by dsimp only; omega) _).setCell (by dsimp only; omega) _
                have c0 := hT.cell0
                have c1 := hT.cell1
                refine bodyPost_ret (v := .tuple #[.agg #[.int .i64 0, .int .i64 0], .int .i64 2]) (by simp [results, Tryz.results13, go_sem, c0, c1]) rfl ⟨hB9, ?_⟩
                unfold rparseM
                rw [if_neg (fun h => by have := (HOK.out.1 h.1).1; rw [HE.out] at this; cases this)]
              · have HNF := Lib.hid hnf
                clear hnf
                cases hdf : df.1
                · have HE := Lib.hid hdf
                  clear hdf
                  have r0 := HR.out.cell0
                  have r1 := HR.out.cell1
                  have y0 := HR.out.free 0
                  have y1 := HR.out.free 1
                  have q0 := HZ.out.cell0
                  have q1 := HZ.out.cell1
                  go_wp2
                  obtain ⟨V9, hV9⟩ : ∃ V9, V9 = (wc.setCell ⟨w.heap.size, 0, none⟩ (.int .i64 0)).setCell ⟨w.heap.size, 1, none⟩ (.int .i64 0) := ⟨_, rfl⟩
                  rw [← hV9]
                  have hT : Two V9 w.heap.size (.int .i64 0) (.int .i64 0) 23 := by rw [hV9]; exact (HR.out.set0 _).set1 _
                  have hB9 : Below w.heap.size w V9 := by rw [hV9]; exact (HB.out.setCell (by dsimp only; omega) _).setCell (by dsimp only; omega) _
                  have c0 := hT.cell0
                  have c1 := hT.cell1
                  refine bodyPost_ret (v := .tuple #[.agg #[.int .i64 0, .int .i64 0], .int .i64 2]) (by simp [results, Tryz.results13, go_sem, c0, c1]) rfl ⟨hB9, ?_⟩
                  unfold rparseM
                  rw [if_neg (fun h => by have := (HOK.out.1 h.1).2.1; rw [HE.out] at this; cases this)]
                · have HDF := Lib.hid hdf
                  clear hdf
                  obtain ⟨x1, hx1⟩ : ∃ x1, smallN nz = x1 := ⟨_, rfl⟩
                  obtain ⟨y1, hy1⟩ : ∃ y1, smallN dz = y1 := ⟨_, rfl⟩
                  obtain ⟨s1, hs1⟩ : ∃ s1 : Bool × Unit, decide (nz ≤ 4611686018427387904) = s1.1 := ⟨(_, ()), rfl⟩
                  obtain ⟨s2, hs2⟩ : ∃ s2 : Bool × Unit, decide (dz ≤ 4611686018427387904) = s2.1 := ⟨(_, ()), rfl⟩
                  have hxb : -4611686018427387904 ≤ x1 ∧ x1 ≤ 4611686018427387904 := by rw [← hx1]; unfold smallN; split <;> omega
                  have hyb : -4611686018427387904 ≤ y1 ∧ y1 ≤ 4611686018427387904 := by rw [← hy1]; unfold smallN; split <;> omega
                  have cs1 := rsmall_any HM.out (by omega)
                  rw [smallV_nat, hx1, hs1] at cs1
                  have HX := Lib.hid (And.intro hx1 (And.intro hy1 (And.intro hs1 hs2)))
                  have k0_ := HN5.out.cell0
                  have k1_ := HN5.out.cell1
                  go_upto_region 17 with fail
                  go_wp2_with fail
                  refine cs1.mono ?_
                  rintro e V4 ⟨rfl, hn4⟩
                  have HB6 := Lib.hid (HB.out.trans (hn4.mono HB.out.size))
                  have HR6 := Lib.hid (HR.out.below hn4 HR.out.lt)
                  have HZ6 := Lib.hid (HZ.out.below hn4 HZ.out.lt)
                  have HD6 := Lib.hid (HD.out.below hn4 HD.out.lt)
                  have HO6 := Lib.hid (IsR.below HO.out hn4)
                  clear cs1 hn4 HB HR HZ HD HO HN5 HM k0_ k1_
                  have cs2 := rsmall_any HO6.out (by omega)
                  rw [smallV_nat, hy1, hs2] at cs2
                  clear hx1 hy1 hs1 hs2
                  have k0_ := HD6.out.cell0
                  have k1_ := HD6.out.cell1
                  go_wp2_with fail
                  refine cs2.mono ?_
                  rintro e V5 ⟨rfl, hn5⟩
                  have HB7 := Lib.hid (HB6.out.trans (hn5.mono HB6.out.size))
                  have HR7 := Lib.hid (HR6.out.below hn5 HR6.out.lt)
                  have HZ7 := Lib.hid (HZ6.out.below hn5 HZ6.out.lt)
                  clear cs2 hn5 HB6 HR6 HZ6 HD6 HO6 k0_ k1_
                  go_upto_region 19 with fail
                  obtain ⟨x2, hx2⟩ : ∃ x2, (if ng.1 = true then -x1 else x1) = x2 := ⟨_, rfl⟩
                  have HX2 := Lib.hid hx2
                  clear hx2
                  go_cut [81] (fun s81 wx => s81 = .bool ng.1 ∧ wx = V5)
                  case first =>
                    go_wp2_with fail
                    go_meet
                    exact ⟨rfl, rfl⟩
                  case rest =>
                    obtain ⟨rfl, rfl⟩ := hcut
                    refine ‹∀ (a : Act) (w' : World), Code.wp Tryz.prog (Code.cond _ _ _) _ a w' → _› _ _ ?_
                    obtain ⟨we, hwe⟩ : ∃ we, we = wc := ⟨_, rfl⟩
                    go_cut [6, 13] (fun s6 s13 wx => s13 = .int .i64 x2 ∧ wx = we)
                    case first =>
                      have hx2 := HX2.out
                      cases hng : ng.1
                      · rw [hng, if_neg (by simp)] at hx2
                        subst hx2
                        go_wp2_with fail
                        go_meet
                        exact ⟨rfl, hwe.symm⟩
                      · rw [hng, if_pos rfl] at hx2
                        go_wp2_with fail
                        go_meet
                        exact ⟨by first | rfl | (rw [← hx2]; rfl) | (rw [← hx2]), hwe.symm⟩
                    case rest =>
                      obtain ⟨rfl, rfl⟩ := hcut
                      have hxb2 : -4611686018427387904 ≤ x2 ∧ x2 ≤ 4611686018427387904 := by rw [← HX2.out]; split <;> omega
                      have hxI : I64 x2 := by unfold I64; omega
                      have hyI : I64 y1 := by unfold I64; omega
                      have hca : rcand l = (x2, y1) := by rw [HCA.out, HX.out.1, HX.out.2.1, HX2.out]
                      have HRC := Lib.hid hca
                      have HII := Lib.hid (And.intro hxI hyI)
                      clear hca hxI hyI hxb hyb hxb2
                      subst hwe
                      obtain ⟨N3, hN⟩ : ∃ N3, N3 = wc.heap.size := ⟨_, rfl⟩
                      obtain ⟨U3, hU⟩ : ∃ U3, U3 = wc.alloc (.cells #[.int .i64 x2, .int .i64 y1] 23) := ⟨_, rfl⟩
                      have HU := Lib.hid (And.intro hU hN)
                      clear hU hN
                      go_upto_region 22 with fail
                      rw [← HU.out.2, ← HU.out.1]
                      have hu : Below wc.heap.size wc U3 := by rw [HU.out.1]; exact (Below.refl _ _).alloc (Nat.le_refl _) _
                      have HB8 := Lib.hid (HB7.out.trans (hu.mono HB7.out.size))
                      have HR8 := Lib.hid (HR7.out.below hu HR7.out.lt)
                      have HZ8 := Lib.hid (HZ7.out.below hu HZ7.out.lt)
                      have HX8 := Lib.hid (show Two U3 N3 (.int .i64 x2) (.int .i64 y1) 23 by rw [HU.out.1]; exact Two.newAt _ _ _ _ _ HU.out.2)
                      clear hu HU HB7 HR7 HZ7
                      cases hs1 : s1.1
                      · have HE := Lib.hid hs1
                        clear hs1
                        have r0 := HR8.out.cell0
                        have r1 := HR8.out.cell1
                        have y0 := HR8.out.free 0
                        have y1 := HR8.out.free 1
                        have q0 := HZ8.out.cell0
                        have q1 := HZ8.out.cell1
                        go_wp2
                        obtain ⟨V9, hV9⟩ : ∃ V9, V9 = (U3.setCell ⟨w.heap.size, 0, none⟩ (.int .i64 0)).setCell ⟨w.heap.size, 1, none⟩ (.int .i64 0) := ⟨_, rfl⟩
                        rw [← hV9]
                        have hT : Two V9 w.heap.size (.int .i64 0) (.int .i64 0) 23 := by rw [hV9]; exact (HR8.out.set0 _).set1 _
                        have hB9 : Below w.heap.size w V9 := by rw [hV9]; exact (HB8.out.setCell (by dsimp only; omega) _).setCell (by dsimp only; omega) _
                        have c0 := hT.cell0
                        have c1 := hT.cell1
                        refine bodyPost_ret (v := .tuple #[.agg #[.int .i64 0, .int .i64 0], .int .i64 2]) (by simp [results, Tryz.results13, go_sem, c0, c1]) rfl ⟨hB9, ?_⟩
                        unfold rparseM
                        rw [if_neg (fun h => by have h1 := HX.out.2.2.1; rw [HE.out] at h1; exact absurd (HOK.out.1 h.1).2.2.1 (of_decide_eq_false h1))]
                      · have HS1 := Lib.hid hs1
                        clear hs1
                        cases hs2 : s2.1
                        · have HE := Lib.hid hs2
                          clear hs2
                          have r0 := HR8.out.cell0
                          have r1 := HR8.out.cell1
                          have y0 := HR8.out.free 0
                          have y1 := HR8.out.free 1
                          have q0 := HZ8.out.cell0
                          have q1 := HZ8.out.cell1
                          go_wp2
                          obtain ⟨V9, hV9⟩ : ∃ V9, V9 = (U3.setCell ⟨w.heap.size, 0, none⟩ (.int .i64 0)).setCell ⟨w.heap.size, 1, none⟩ (.int .i64 0) := ⟨_, rfl⟩
                          rw [← hV9]
                          have hT : Two V9 w.heap.size (.int .i64 0) (.int .i64 0) 23 := by rw [hV9]; exact (HR8.out.set0 _).set1 _
                          have hB9 : Below w.heap.size w V9 := by rw [hV9]; exact (HB8.out.setCell (by dsimp only; omega) _).setCell (by dsimp only; omega) _
                          have c0 := hT.cell0
                          have c1 := hT.cell1
                          refine bodyPost_ret (v := .tuple #[.agg #[.int .i64 0, .int .i64 0], .int .i64 2]) (by simp [results, Tryz.results13, go_sem, c0, c1]) rfl ⟨hB9, ?_⟩
                          unfold rparseM
                          rw [if_neg (fun h => by have h1 := HX.out.2.2.2; rw [HE.out] at h1; exact absurd (HOK.out.1 h.1).2.2.2 (of_decide_eq_false h1))]
                        · have HS2 := Lib.hid hs2
                          clear hs2
                          have cv := rvalid_any x2 y1 U3
                          have k0_ := HX8.out.cell0
                          have k1_ := HX8.out.cell1
                          by_cases hok : FOk (x2, y1)
                          · rw [decide_eq_true hok] at cv
                            have ht := fun W => rtext_any x2 y1 W hok
                            have HFO := Lib.hid hok
                            clear hok
                            go_wp2_with fail
                            refine cv.mono ?_
                            rintro e V6 ⟨rfl, hn6⟩
                            have HB9 := Lib.hid (HB8.out.trans (hn6.mono HB8.out.size))
                            have HR9 := Lib.hid (HR8.out.below hn6 HR8.out.lt)
                            have HZ9 := Lib.hid (HZ8.out.below hn6 HZ8.out.lt)
                            have HX9 := Lib.hid (HX8.out.below hn6 HX8.out.lt)
                            clear cv hn6 HB8 HR8 HZ8 HX8 k0_ k1_
                            have k0_ := HX9.out.cell0
                            have k1_ := HX9.out.cell1
                            have cc := ht V6
                            go_wp2_with fail
                            refine cc.mono ?_
                            rintro e V7 ⟨rfl, hn7⟩
                            have HB10 := Lib.hid (HB9.out.trans (hn7.mono HB9.out.size))
                            have HR10 := Lib.hid (HR9.out.below hn7 HR9.out.lt)
                            have HZ10 := Lib.hid (HZ9.out.below hn7 HZ9.out.lt)
                            have HX10 := Lib.hid (HX9.out.below hn7 HX9.out.lt)
                            clear cc ht hn7 HB9 HR9 HZ9 HX9 k0_ k1_
                            by_cases he : textM x2 y1 = l
                            · have HE := Lib.hid he
                              have q0 := HX10.out.cell0
                              have q1 := HX10.out.cell1
                              have r0 := HR10.out.cell0
                              have r1 := HR10.out.cell1
                              have y0 := HR10.out.free 0
                              have y1_ := HR10.out.free 1
                              have hq : (textM x2 y1 == l) = true := beq_iff_eq.2 he
                              clear he
                              go_wp2
                              obtain ⟨V9, hV9⟩ : ∃ V9, V9 = (V7.setCell ⟨w.heap.size, 0, none⟩ (.int .i64 x2)).setCell ⟨w.heap.size, 1, none⟩ (.int .i64 y1) := ⟨_, rfl⟩
                              rw [← hV9]
                              have hT : Two V9 w.heap.size (.int .i64 x2) (.int .i64 y1) 23 := by rw [hV9]; exact (HR10.out.set0 _).set1 _
                              have hB9 : Below w.heap.size w V9 := by rw [hV9]; exact (HB10.out.setCell (by dsimp only; omega) _).setCell (by dsimp only; omega) _
                              have c0 := hT.cell0
                              have c1 := hT.cell1
                              refine bodyPost_ret (v := .tuple #[.agg #[.int .i64 x2, .int .i64 y1], .int .i64 0]) (by simp [results, Tryz.results13, go_sem, c0, c1]) rfl ⟨hB9, ?_⟩
                              unfold rparseM
                              rw [HRC.out, if_pos ⟨HOK.out.2 ⟨HNF.out, HDF.out, of_decide_eq_true (HX.out.2.2.1.trans HS1.out), of_decide_eq_true (HX.out.2.2.2.trans HS2.out)⟩, HFO.out, HE.out⟩]
                            · have HE := Lib.hid he
                              have hq : (textM x2 y1 == l) = false := beq_eq_false_iff_ne.2 he
                              clear he
                              have r0 := HR10.out.cell0
                              have r1 := HR10.out.cell1
                              have y0 := HR10.out.free 0
                              have y1 := HR10.out.free 1
                              have q0 := HZ10.out.cell0
                              have q1 := HZ10.out.cell1
                              go_wp2
                              obtain ⟨V9, hV9⟩ : ∃ V9, V9 = (V7.setCell ⟨w.heap.size, 0, none⟩ (.int .i64 0)).setCell ⟨w.heap.size, 1, none⟩ (.int .i64 0) := ⟨_, rfl⟩
                              rw [← hV9]
                              have hT : Two V9 w.heap.size (.int .i64 0) (.int .i64 0) 23 := by rw [hV9]; exact (HR10.out.set0 _).set1 _
                              have hB9 : Below w.heap.size w V9 := by rw [hV9]; exact (HB10.out.setCell (by dsimp only; omega) _).setCell (by dsimp only; omega) _
                              have c0 := hT.cell0
                              have c1 := hT.cell1
                              refine bodyPost_ret (v := .tuple #[.agg #[.int .i64 0, .int .i64 0], .int .i64 2]) (by simp [results, Tryz.results13, go_sem, c0, c1]) rfl ⟨hB9, ?_⟩
                              unfold rparseM
                              rw [if_neg (fun h => by have h1 := h.2.2; rw [HRC.out] at h1; exact HE.out h1)]
                          · rw [decide_eq_false hok] at cv
                            have HE := Lib.hid hok
                            clear hok
                            go_wp2_with fail
                            refine cv.mono ?_
                            rintro e V6 ⟨rfl, hn6⟩
                            have HB9 := Lib.hid (HB8.out.trans (hn6.mono HB8.out.size))
                            have HR9 := Lib.hid (HR8.out.below hn6 HR8.out.lt)
                            have HZ9 := Lib.hid (HZ8.out.below hn6 HZ8.out.lt)
                            clear cv hn6 HB8 HR8 HZ8 HX8 k0_ k1_
                            have r0 := HR9.out.cell0
                            have r1 := HR9.out.cell1
                            have y0 := HR9.out.free 0
                            have y1 := HR9.out.free 1
                            have q0 := HZ9.out.cell0
                            have q1 := HZ9.out.cell1
                            go_wp2
                            obtain ⟨V9, hV9⟩ : ∃ V9, V9 = (V6.setCell ⟨w.heap.size, 0, none⟩ (.int .i64 0)).setCell ⟨w.heap.size, 1, none⟩ (.int .i64 0) := ⟨_, rfl⟩
                            rw [← hV9]
                            have hT : Two V9 w.heap.size (.int .i64 0) (.int .i64 0) 23 := by rw [hV9]; exact (HR9.out.set0 _).set1 _
                            have hB9 : Below w.heap.size w V9 := by rw [hV9]; exact (HB9.out.setCell (by dsimp only; omega) _).setCell (by dsimp only; omega) _
                            have c0 := hT.cell0
                            have c1 := hT.cell1
                            refine bodyPost_ret (v := .tuple #[.agg #[.int .i64 0, .int .i64 0], .int .i64 2]) (by simp [results, Tryz.results13, go_sem, c0, c1]) rfl ⟨hB9, ?_⟩
                            unfold rparseM
                            rw [if_neg (fun h => by have h1 := h.2.1; rw [HRC.out] at h1; exact HE.out h1)]
        · have hml : m < R.length := by omega
          obtain rfl : i' = (m : Int) := by omega
          obtain ⟨ch, hch⟩ : ∃ ch, R[m] = ch := ⟨_, rfl⟩
          obtain ⟨q, hq'⟩ : ∃ q, ch.toNat = q := ⟨_, rfl⟩
          have hq : ((⟨R.toArray⟩ : ByteArray)[m]'(by show m < R.toArray.size; simpa using hml)).toNat = q := by
            rw [← hq', ← hch]
            rfl
          have hst := slashM_step R m hml
          rw [hch] at hst
          have i1 : (0 : Int) ≤ (m : Int) := by omega
          have i2 : (m : Int) < (R.length : Int) := by omega
          have h47 : ch = 47 ↔ q = 47 := by
            constructor
            · rintro rfl; rw [← hq']; rfl
            · intro h; exact UInt8.toNat_inj.1 (by rw [hq', h]; rfl)
          have HST := Lib.hid hst
          have H47 := Lib.hid h47
          clear hst h47 hq' hch hi
          by_cases hc : q = 47
          · have d1 : ((q : Int) == 47) = true := beq_iff_eq.2 (by omega)
            have hc0 := H47.out.2 hc
            have HC := Lib.hid hc0
            clear hc0 hc
            go_wp2
            go_roundw
            case rel => exact ⟨m, (m : Int) - 1, by omega, rfl, rfl, by rw [HST.out, if_pos HC.out], HR.out, HZ.out, HB.out⟩
            case measure => simp [RowKit.intOf]
          · have d1 : ((q : Int) == 47) = false := beq_eq_false_iff_ne.2 (by omega)
            have HC := Lib.hid (show ¬ ch = 47 from fun h => hc (H47.out.1 h))
            clear hc
            go_wp2
            go_roundw
            case rel => exact ⟨m, (m : Int) - 1, by omega, rfl, rfl, by rw [HST.out, if_neg HC.out], HR.out, HZ.out, HB.out⟩
            case measure => simp [RowKit.intOf]
end Go.Proofs.YtklngjjokbhfpaaGreatDoor
