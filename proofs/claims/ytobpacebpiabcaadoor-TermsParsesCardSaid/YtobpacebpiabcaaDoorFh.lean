/- ref's term: a word without kids; all ways together (printed by expand.py). -/
import Derived.Test.YtobpacebpiabcaaDoorFe
import Derived.Test.YtobpacebpiabcaaDoorFg
import Derived.Test.YtobpacebpiabcaaDoorPkBc
namespace Go.Proofs.YtobpacebpiabcaaDoor
open Go.RowKit Go.Lib
theorem tw_take {s : List UInt8} {p : Nat} (h : (s.take p).all ldB = true) (he : s.length ≤ p ∨ ∃ hp : p < s.length, ldB s[p] = false) : tw s = s.take p := by
  have e := tw_word (w := s.take p) (l := s.drop p) h (by
    rcases he with he | ⟨hp, hc⟩
    · exact .inl (List.drop_eq_nil_of_le he)
    · exact .inr ⟨_, _, List.drop_eq_getElem_cons hp, hc⟩)
  rw [List.take_append_drop] at e
  exact e
theorem ldB_eq (c : UInt8) (q : Nat) (h : c.toNat = q) : ldB c = ((decide (97 ≤ q) && decide (q ≤ 122)) || (decide (48 ≤ q) && decide (q ≤ 57))) := by rw [ldB, letB_eq c q h, digB_eq c q h]
set_option maxRecDepth 100000 in
set_option maxHeartbeats 25600000 in
theorem rterm_word (m : Nat) (s : List UInt8) (L : Int) (w : World) (hm1 : m ≤ 1000) (hs : s.length ≤ 1000000) (hL : L = ((m + 1 : Nat) : Int)) (hbr : begB s [40] = false) (hone : one2 s = none) (hwi : begB s (wWithin ++ sp) = false) : Calls Tryd.prog 49 #[.string ⟨s.toArray⟩, .int .i64 L] w (RetRT (m + 1) s w) := by
  have d0 : decide (L < 1) = false := decide_eq_false (by omega)
  have HBR := Lib.hid hbr
  have HNO := Lib.hid (one2_no hone)
  have HWI := Lib.hid hwi
  have HRW := Lib.hid (rt_word (m := m) hbr hone hwi)
  have hs' := hs
  clear hm1 hL hbr hone hwi hs
  obtain ⟨n, hn⟩ : ∃ n, s.length = n := ⟨_, rfl⟩
  have hz : (⟨s.toArray⟩ : ByteArray).size = n := by show s.toArray.size = _; simpa using hn
  have HN := Lib.hid hn
  have HPN := Lib.hid (show rt (m + 1) s = none → ∀ (k : Int) (nm : List UInt8) (n : Int) (A : Option Addr) (q c : Nat) (r : List UInt8) (e : Ending) (w' : World), e = .returned (.tuple #[.agg #[.int .i64 k, .string ⟨nm.toArray⟩, .int .i64 n, .slice A q c], .string ⟨r.toArray⟩, .bool false]) → Below w.heap.size w w' → RetRT (m + 1) s w e w' from fun h k nm n A q c r e w' h1 h2 => .inr ⟨k, nm, n, A, q, c, r, h, h1, h2⟩)
  have HPS := Lib.hid (show ∀ t rest v (e : Ending) (w' : World), rt (m + 1) s = some (t, rest) → e = .returned (.tuple #[v, .string ⟨rest.toArray⟩, .bool true]) → TmV (fun b => w.heap.size ≤ b) w' v t → Below w.heap.size w w' → RetRT (m + 1) s w e w' from fun t rest v e w' h h1 h2 h3 => .inl ⟨t, rest, v, h, h1, h2, h3⟩)
  generalize hPost : RetRT (m + 1) s w = Post at *
  obtain ⟨W2, hW2⟩ : ∃ W2, W2 = (w.alloc (.cells #[.int .i64 0, .string ⟨#[]⟩, .int .i64 0, .slice none 0 0] 26)).alloc (.cells #[.int .i64 0, .string ⟨#[]⟩, .int .i64 0, .slice none 0 0] 26) := ⟨_, rfl⟩
  have HW2 := Lib.hid (show Below w.heap.size w W2 by rw [hW2]; exact ((Below.refl _ _).alloc (Nat.le_refl _) _).alloc (by simp) _)
  have HZ2 := Lib.hid (show Blk W2 w.heap.size #[.int .i64 0, .string ⟨#[]⟩, .int .i64 0, .slice none 0 0] 26 by rw [hW2]; exact (Blk.new w _ _).below ((Below.refl _ _).alloc (Nat.le_refl _) _))
  obtain ⟨H, hH⟩ : ∃ H, w.heap.size + 1 = H := ⟨_, rfl⟩
  have HH2 := Lib.hid (show Blk W2 H #[.int .i64 0, .string ⟨#[]⟩, .int .i64 0, .slice none 0 0] 26 by
    have h := Blk.new (w.alloc (.cells #[.int .i64 0, .string ⟨#[]⟩, .int .i64 0, .slice none 0 0] 26)) #[.int .i64 0, .string ⟨#[]⟩, .int .i64 0, .slice none 0 0] 26
    rw [show (w.alloc (.cells #[.int .i64 0, .string ⟨#[]⟩, .int .i64 0, .slice none 0 0] 26)).heap.size = H by rw [← hH]; simp, ← hW2] at h
    exact h)
  have HHX := Lib.hid (show w.heap.size < H by omega)
  clear hPost hn
  go_enter Tryd.func49, Tryd.ntmps49
  go_upto_region 2 with fail
  rw [← hW2]
  clear hW2 hH
  have hn6 : n ≤ 1000000 := by rw [← HN.out]; exact hs'
  clear hs'
  have cb : Calls Tryd.prog 70 #[.string ⟨s.toArray⟩, .string ⟨#[40]⟩] W2 (RetV (.bool false) W2) := by
    have h := begins_any s [40] W2
    rw [HBR.out] at h
    exact h
  go_wp2_with fail
  refine cb.mono ?_
  rintro e W2' ⟨rfl, rfl⟩
  clear cb
  obtain ⟨W3, hW3⟩ : ∃ W3, W3 = W2.alloc (.cells #[.string ⟨#[110, 111, 116, 32]⟩, .string ⟨#[112, 114, 101, 118, 32]⟩, .string ⟨#[111, 110, 99, 101, 32]⟩, .string ⟨#[97, 108, 119, 97, 121, 115, 32]⟩] 9) := ⟨_, rfl⟩
  have hb3 : Below W2.heap.size W2 W3 := by rw [hW3]; exact (Below.refl _ _).alloc (Nat.le_refl _) _
  have hv3 : Blk W3 W2.heap.size #[.string ⟨#[110, 111, 116, 32]⟩, .string ⟨#[112, 114, 101, 118, 32]⟩, .string ⟨#[111, 110, 99, 101, 32]⟩, .string ⟨#[97, 108, 119, 97, 121, 115, 32]⟩] 9 := by rw [hW3]; exact Blk.new _ _ _
  obtain ⟨W4, hW4⟩ : ∃ W4, W4 = W3.alloc (.cells #[.int .i64 3, .int .i64 6, .int .i64 7, .int .i64 8] 3) := ⟨_, rfl⟩
  have hb4 : Below W3.heap.size W3 W4 := by rw [hW4]; exact (Below.refl _ _).alloc (Nat.le_refl _) _
  have hb24 := hb3.trans (hb4.mono hb3.size)
  have HW4C := Lib.hid (show ∀ j, j < 4 → W4.cell? ⟨W2.heap.size, j, none⟩ = some (.string ⟨(w4 j).toArray⟩) from fun j hj => w4_cell (hv3.below hb4) hj)
  have HW4 := Lib.hid (HW2.out.trans (hb24.mono HW2.out.size))
  have HZ4 := Lib.hid (HZ2.out.below hb24)
  have HH4 := Lib.hid (HH2.out.below hb24)
  clear hv3 hb3 hb4 hb24
  go_upto_region 19 with fail
  rw [← hW3, ← hW4]
  clear hW3 hW4
  go_wp2
  go_loopw [19] (fun i wr => ∃ j : Nat, j ≤ 4 ∧ i = .int .i64 j ∧ W4 = wr) (fun i _ => 4 - (intOf i).toNat)
  case atStart => exact ⟨0, Nat.zero_le _, rfl, rfl⟩
  case round =>
    obtain ⟨j, hj, rfl, rfl⟩ := hrel
    by_cases hlt : j < 4
    · have cj := HW4C.out j hlt
      have hj3 : (j : Int) < 4 := by omega
      have hj0 : (0 : Int) ≤ (j : Int) := by omega
      have cb := begins_any s (w4 j) W4
      rw [HNO.out j hlt] at cb
      generalize w4 j = wd at *
      go_wp2_with fail
      refine cb.mono ?_
      rintro e w'' ⟨rfl, rfl⟩
      clear cb
      go_wp2
      go_roundw
      case rel => exact ⟨j + 1, by omega, by go_num, trivial⟩
      case measure => simp [intOf]; omega
    · obtain rfl : j = 4 := by omega
      clear HW4C hj hlt
      have cw : Calls Tryd.prog 70 #[.string ⟨s.toArray⟩, .string ⟨#[119, 105, 116, 104, 105, 110, 32]⟩] W4 (RetV (.bool false) W4) := by
        have h := begins_any s [119, 105, 116, 104, 105, 110, 32] W4
        rw [show begB s [119, 105, 116, 104, 105, 110, 32] = false from HWI.out] at h
        exact h
      go_wp2_with fail
      refine cw.mono ?_
      rintro e w'' ⟨rfl, rfl⟩
      clear cw
      go_wp2
      go_loopw [28] (fun pp wr => ∃ (p : Nat), p ≤ n ∧ pp = .int .i64 p ∧ (s.take p).all ldB = true ∧ W4 = wr) (fun pp _ => n - (intOf pp).toNat)
      case atStart => exact ⟨0, Nat.zero_le _, rfl, by simp, rfl⟩
      case round =>
        obtain ⟨p, hpn, rfl, hal, rfl⟩ := hrel
        have HAL := Lib.hid hal
        clear hal
        have hp0 : (0 : Int) ≤ (p : Int) := by omega
        go_upto_region 34 with fail
        go_cut [210] (fun c wx => ∃ dg : Bool × Unit, c = .bool dg.1 ∧ W4 = wx ∧ (dg.1 = true → p < n ∧ ∀ h : p < s.length, ldB s[p] = true) ∧ (dg.1 = false → tw s = s.take p))
        case first =>
          by_cases h1 : p < n
          case neg =>
            have d1 : decide ((p : Int) < (n : Int)) = false := decide_eq_false (by omega)
            have d1' : (n : Int) ≤ (p : Int) := by omega
            have HQ := Lib.hid (show tw s = s.take p from tw_take HAL.out (.inl (by have := HN.out; omega)))
            go_wp2_with fail
            go_meet
            exact ⟨(false, ()), rfl, rfl, fun h => (by cases h), fun _ => HQ.out⟩
          have d1 : (p : Int) < (n : Int) := by omega
          have hlt2 : p < s.length := by have := HN.out; omega
          obtain ⟨q, hq'⟩ : ∃ q, s[p].toNat = q := ⟨_, rfl⟩
          have hq : ((⟨s.toArray⟩ : ByteArray)[p]'(by show p < s.toArray.size; simpa using hlt2)).toNat = q := by
            rw [← hq']
            rfl
          have HLD := Lib.hid (ldB_eq _ q hq')
          clear hq'
          have hc : q < 48 ∨ (48 ≤ q ∧ q ≤ 57) ∨ (57 < q ∧ q < 97) ∨ (97 ≤ q ∧ q ≤ 122) ∨ 122 < q := by omega
          rcases hc with h2 | ⟨h2, h3⟩ | ⟨h2, h3⟩ | ⟨h2, h3⟩ | h2
          · have d2 : decide ((97 : Int) ≤ (q : Int)) = false := decide_eq_false (by omega)
            have d2' : (q : Int) < 97 := by omega
            have d3 : decide ((48 : Int) ≤ (q : Int)) = false := decide_eq_false (by omega)
            have d3' : (q : Int) < 48 := by omega
            have HQ := Lib.hid (show tw s = s.take p from tw_take HAL.out (.inr ⟨hlt2, by rw [HLD.out]; simp; omega⟩))
            go_wp2_with fail
            go_meet
            exact ⟨(false, ()), rfl, rfl, fun h => (by cases h), fun _ => HQ.out⟩
          · have d2 : decide ((97 : Int) ≤ (q : Int)) = false := decide_eq_false (by omega)
            have d2' : (q : Int) < 97 := by omega
            have d3 : (48 : Int) ≤ (q : Int) := by omega
            have d4 : (q : Int) ≤ 57 := by omega
            have HQ := Lib.hid (show ∀ h : p < s.length, ldB s[p] = true from fun _ => by rw [HLD.out]; simp; omega)
            go_wp2_with fail
            go_meet
            exact ⟨(true, ()), rfl, rfl, fun _ => ⟨h1, HQ.out⟩, fun h => (by cases h)⟩
          · have d2 : decide ((97 : Int) ≤ (q : Int)) = false := decide_eq_false (by omega)
            have d2' : (q : Int) < 97 := by omega
            have d3 : (48 : Int) ≤ (q : Int) := by omega
            have d4 : decide ((q : Int) ≤ 57) = false := decide_eq_false (by omega)
            have d4' : (57 : Int) < (q : Int) := by omega
            have HQ := Lib.hid (show tw s = s.take p from tw_take HAL.out (.inr ⟨hlt2, by rw [HLD.out]; simp; omega⟩))
            go_wp2_with fail
            go_meet
            exact ⟨(false, ()), rfl, rfl, fun h => (by cases h), fun _ => HQ.out⟩
          · have d2 : (97 : Int) ≤ (q : Int) := by omega
            have d3 : (q : Int) ≤ 122 := by omega
            have HQ := Lib.hid (show ∀ h : p < s.length, ldB s[p] = true from fun _ => by rw [HLD.out]; simp; omega)
            go_wp2_with fail
            go_meet
            exact ⟨(true, ()), rfl, rfl, fun _ => ⟨h1, HQ.out⟩, fun h => (by cases h)⟩
          · have d2 : (97 : Int) ≤ (q : Int) := by omega
            have d2' : decide ((q : Int) ≤ 122) = false := decide_eq_false (by omega)
            have d2'' : (122 : Int) < (q : Int) := by omega
            have d3 : (48 : Int) ≤ (q : Int) := by omega
            have d4 : decide ((q : Int) ≤ 57) = false := decide_eq_false (by omega)
            have d4' : (57 : Int) < (q : Int) := by omega
            have HQ := Lib.hid (show tw s = s.take p from tw_take HAL.out (.inr ⟨hlt2, by rw [HLD.out]; simp; omega⟩))
            go_wp2_with fail
            go_meet
            exact ⟨(false, ()), rfl, rfl, fun h => (by cases h), fun _ => HQ.out⟩
        case rest =>
          obtain ⟨⟨dg, _⟩, rfl, rfl, hyes, hno⟩ := hcut
          have HYES := Lib.hid hyes
          have HNO2 := Lib.hid hno
          clear hyes hno
          cases dg with
          | true =>
            obtain ⟨h1, h2⟩ := HYES.out rfl
            have hlt2 : p < s.length := by have := HN.out; omega
            have HAL2 := Lib.hid (show (s.take (p + 1)).all ldB = true from by rw [List.take_succ_eq_append_getElem hlt2, List.all_append, HAL.out]; simp [h2 hlt2])
            clear h2
            go_wp2
            go_roundw
            case rel => exact ⟨p + 1, by omega, by go_num, HAL2.out, trivial⟩
            case measure => simp [intOf]; omega
          | false =>
            have HTW := Lib.hid (HNO2.out rfl)
            obtain ⟨wd, hwd⟩ : ∃ wd, s.take p = wd := ⟨_, rfl⟩
            have hwl : wd.length = p := by rw [← hwd, List.length_take, HN.out]; omega
            have e1 : (⟨s.toArray⟩ : ByteArray).extract 0 p = ⟨wd.toArray⟩ := by rw [← hwd]; exact ext_take s p
            obtain ⟨rst, hrst⟩ : ∃ rst, s.drop p = rst := ⟨_, rfl⟩
            have e2 : (⟨s.toArray⟩ : ByteArray).extract p n = ⟨rst.toArray⟩ := by rw [← HN.out, ← hrst]; exact ext_drop s p
            have HRW2 := Lib.hid (show rt (m + 1) s = if wd = wTrue then some (yesT, s.drop 4) else if isName wd = true then some ((2, wd, 0, .nil), rst) else none from by rw [HRW.out, HTW.out, hwd, hwl, hrst])
            have hpn' : (p : Int) ≤ (n : Int) := by omega
            have HRST := Lib.hid hrst
            have HWL := Lib.hid hwl
            clear hwd hrst hwl
            by_cases ht : wd = wTrue
            · have dt : (wd == [116, 114, 117, 101]) = true := by rw [beq_iff_eq]; exact ht
              have HRS := Lib.hid (show rt (m + 1) s = some (yesT, rst) from by rw [HRW2.out, if_pos ht, ← HRST.out, ← HWL.out, ht]; rfl)
              clear ht
              go_upto_region 37 with fail
              have HBR4 := Lib.hid (Below.refl W4.heap.size W4)
              have z0 := HZ4.out.cell 0
              have z1 := HZ4.out.cell 1
              have z2 := HZ4.out.cell 2
              have z3 := HZ4.out.cell 3
              have g0 := HZ4.out.free 0
              have g1 := HZ4.out.free 1
              have g2 := HZ4.out.free 2
              have g3 := HZ4.out.free 3
              refine Lex.wp_region_lex (fun w' => True) (fun _ => true)
                [(0, true), (1, true), (2, true), (3, true), (4, false), (5, false), (6, false)]
                (by kernel_rfl) (by kernel_rfl) (by kernel_rfl) (by kernel_rfl) trivial ?_
              have hb0 : Below W4.heap.size W4 W4.drew := ⟨rfl, rfl, rfl, Nat.le_refl _, fun _ _ => rfl⟩
              have hw0 : Below w.heap.size w W4.drew := ⟨HW4.out.os, HW4.out.tape, HW4.out.output, HW4.out.size, HW4.out.block⟩
              generalize hV0 : W4.drew = V0 at *
              clear hV0
              iterate 4 (refine Lex.lex_take (v := ?_) rfl rfl (by rfl) (fun _ hS => ?_) ?_; rotate_left 1; (focus (clear hS; go_simp; with_reducible rfl)); simp only [List.setIfInBounds_toArray, List.set_cons_zero, List.set_cons_succ])
              refine Lex.lex_do rfl ?_
              have HZ5 := Lib.hid (HZ4.out.below hb0)
              have HW5 := Lib.hid hw0
              clear z0 z1 z2 z3 g0 g1 g2 g3
              have z0 := HZ5.out.cell 0
              have z1 := HZ5.out.cell 1
              have z2 := HZ5.out.cell 2
              have z3 := HZ5.out.cell 3
              have g0 := HZ5.out.free 0
              have g1 := HZ5.out.free 1
              have g2 := HZ5.out.free 2
              have g3 := HZ5.out.free 3
              go_wp2_with fail
              refine Lex.lexQ_normal (fun _ => trivial) ?_
              refine Lex.lex_do rfl ?_
              go_wp2_with fail
              refine Lex.lexQ_normal (fun _ => trivial) ?_
              refine Lex.lex_do rfl ?_
              go_wp2_with fail
              refine Lex.lexQ_normal (fun _ => trivial) ?_
              refine Lex.lex_nil ?_
              have HE := Lib.hid (HZ5.out.set4 (.int .i64 1) (.string ⟨#[]⟩) (.int .i64 0) (.slice none 0 0))
              have HEB := Lib.hid (below_set4' HW5.out (Nat.le_refl _) (.int .i64 1) (.string ⟨#[]⟩) (.int .i64 0) (.slice none 0 0))
              go_wp2
              have r0 := HE.out.cell 0
              have r1 := HE.out.cell 1
              have r2 := HE.out.cell 2
              have r3 := HE.out.cell 3
              refine bodyPost_ret (v := .tuple #[.agg #[.int .i64 1, .string ⟨#[]⟩, .int .i64 0, .slice none 0 0], .string ⟨rst.toArray⟩, .bool true]) ?_ rfl (HPS.out yesT rst _ _ _ HRS.out rfl ⟨.slice none 0 0, rfl, KidsV.nil _ _⟩ HEB.out)
              simp [set4] at r0 r1 r2 r3
              simp [results, Tryd.results49, go_sem, r0, r1, r2, r3]
            · have dt : (wd == [116, 114, 117, 101]) = false := by rw [beq_eq_false_iff_ne]; exact ht
              have HNT := Lib.hid ht
              have HCN := Lib.hid (fun W => refname_any wd W (by have := HWL.out; omega))
              clear ht
              cases hnm : isName wd with
              | true =>
                have HRS := Lib.hid (show rt (m + 1) s = some ((2, wd, 0, .nil), rst) from by rw [HRW2.out, if_neg HNT.out, if_pos hnm])
                have HNM := Lib.hid hnm
                clear hnm
                go_upto_region 38 with fail
                refine Lex.wp_region_lex (fun w' => True) (fun _ => true)
                  [(0, true), (1, true), (2, true), (3, true), (4, true), (5, true), (6, true), (7, true), (8, true), (9, true), (10, false), (11, false), (12, false), (13, false)]
                  (by kernel_rfl) (by kernel_rfl) (by kernel_rfl) (by kernel_rfl) trivial ?_
                have hb0 : Below W4.heap.size W4 W4.drew := ⟨rfl, rfl, rfl, Nat.le_refl _, fun _ _ => rfl⟩
                have hw0 : Below w.heap.size w W4.drew := ⟨HW4.out.os, HW4.out.tape, HW4.out.output, HW4.out.size, HW4.out.block⟩
                generalize hV0 : W4.drew = V0 at *
                clear hV0
                iterate 10 (refine Lex.lex_take (v := ?_) rfl rfl (by rfl) (fun _ hS => ?_) ?_; rotate_left 1; (focus (clear hS; go_simp; with_reducible rfl)); simp only [List.setIfInBounds_toArray, List.set_cons_zero, List.set_cons_succ])
                refine Lex.lex_do rfl ?_
                have cc := (by have h := HCN.out V0; rw [HNM.out] at h; exact h)
                go_wp2_with fail
                refine cc.mono ?_
                rintro e V1 ⟨rfl, hn1⟩
                have hb1 := hb0.trans (hn1.mono hb0.size)
                have hw1 := hw0.trans (hn1.mono hw0.size)
                clear cc hb0 hw0
                clear hn1
                go_wp2_with fail
                refine Lex.lexQ_normal (fun _ => trivial) ?_
                refine Lex.lex_do rfl ?_
                have HZ5 := Lib.hid (HZ4.out.below hb1)
                have HW5 := Lib.hid hw1
                have z0 := HZ5.out.cell 0
                have z1 := HZ5.out.cell 1
                have z2 := HZ5.out.cell 2
                have z3 := HZ5.out.cell 3
                have g0 := HZ5.out.free 0
                have g1 := HZ5.out.free 1
                have g2 := HZ5.out.free 2
                have g3 := HZ5.out.free 3
                go_wp2_with fail
                refine Lex.lexQ_normal (fun _ => trivial) ?_
                refine Lex.lex_do rfl ?_
                go_wp2_with fail
                refine Lex.lexQ_normal (fun _ => trivial) ?_
                refine Lex.lex_do rfl ?_
                go_wp2_with fail
                refine Lex.lexQ_normal (fun _ => trivial) ?_
                refine Lex.lex_nil ?_
                have HE := Lib.hid (HZ5.out.set4 (.int .i64 2) (.string ⟨wd.toArray⟩) (.int .i64 0) (.slice none 0 0))
                have HEB := Lib.hid (below_set4' HW5.out (Nat.le_refl _) (.int .i64 2) (.string ⟨wd.toArray⟩) (.int .i64 0) (.slice none 0 0))
                go_wp2
                have r0 := HE.out.cell 0
                have r1 := HE.out.cell 1
                have r2 := HE.out.cell 2
                have r3 := HE.out.cell 3
                refine bodyPost_ret (v := .tuple #[.agg #[.int .i64 2, .string ⟨wd.toArray⟩, .int .i64 0, .slice none 0 0], .string ⟨rst.toArray⟩, .bool true]) ?_ rfl (HPS.out (2, wd, 0, .nil) rst _ _ _ HRS.out rfl ⟨.slice none 0 0, rfl, KidsV.nil _ _⟩ HEB.out)
                simp [set4] at r0 r1 r2 r3
                simp [results, Tryd.results49, go_sem, r0, r1, r2, r3]
              | false =>
                have HRN := Lib.hid (show rt (m + 1) s = none from by rw [HRW2.out, if_neg HNT.out, if_neg (by rw [hnm]; decide)])
                have HNM := Lib.hid hnm
                clear hnm
                go_upto_region 38 with fail
                refine Lex.wp_region_lex (fun w' => True) (fun _ => true)
                  [(0, true), (1, true), (2, true), (3, true), (4, true), (5, true), (6, true), (7, true), (8, true), (9, true), (10, false), (11, false), (12, false), (13, false)]
                  (by kernel_rfl) (by kernel_rfl) (by kernel_rfl) (by kernel_rfl) trivial ?_
                have hb0 : Below W4.heap.size W4 W4.drew := ⟨rfl, rfl, rfl, Nat.le_refl _, fun _ _ => rfl⟩
                have hw0 : Below w.heap.size w W4.drew := ⟨HW4.out.os, HW4.out.tape, HW4.out.output, HW4.out.size, HW4.out.block⟩
                generalize hV0 : W4.drew = V0 at *
                clear hV0
                iterate 10 (refine Lex.lex_take (v := ?_) rfl rfl (by rfl) (fun _ hS => ?_) ?_; rotate_left 1; (focus (clear hS; go_simp; with_reducible rfl)); simp only [List.setIfInBounds_toArray, List.set_cons_zero, List.set_cons_succ])
                refine Lex.lex_do rfl ?_
                have cc := (by have h := HCN.out V0; rw [HNM.out] at h; exact h)
                go_wp2_with fail
                refine cc.mono ?_
                rintro e V1 ⟨rfl, hn1⟩
                have hb1 := hb0.trans (hn1.mono hb0.size)
                have hw1 := hw0.trans (hn1.mono hw0.size)
                clear cc hb0 hw0
                clear hn1
                go_wp2_with fail
                refine Lex.lexQ_normal (fun _ => trivial) ?_
                refine Lex.lex_do rfl ?_
                have HZ5 := Lib.hid (HZ4.out.below hb1)
                have HW5 := Lib.hid hw1
                have z0 := HZ5.out.cell 0
                have z1 := HZ5.out.cell 1
                have z2 := HZ5.out.cell 2
                have z3 := HZ5.out.cell 3
                have g0 := HZ5.out.free 0
                have g1 := HZ5.out.free 1
                have g2 := HZ5.out.free 2
                have g3 := HZ5.out.free 3
                go_wp2_with fail
                refine Lex.lexQ_normal (fun _ => trivial) ?_
                refine Lex.lex_do rfl ?_
                go_wp2_with fail
                refine Lex.lexQ_normal (fun _ => trivial) ?_
                refine Lex.lex_do rfl ?_
                go_wp2_with fail
                refine Lex.lexQ_normal (fun _ => trivial) ?_
                refine Lex.lex_nil ?_
                have HE := Lib.hid (HZ5.out.set4 (.int .i64 2) (.string ⟨wd.toArray⟩) (.int .i64 0) (.slice none 0 0))
                have HEB := Lib.hid (below_set4' HW5.out (Nat.le_refl _) (.int .i64 2) (.string ⟨wd.toArray⟩) (.int .i64 0) (.slice none 0 0))
                go_wp2
                have r0 := HE.out.cell 0
                have r1 := HE.out.cell 1
                have r2 := HE.out.cell 2
                have r3 := HE.out.cell 3
                refine bodyPost_ret (v := .tuple #[.agg #[.int .i64 2, .string ⟨wd.toArray⟩, .int .i64 0, .slice none 0 0], .string ⟨rst.toArray⟩, .bool false]) ?_ rfl (HPN.out HRN.out 2 wd 0 none 0 0 rst _ _ rfl HEB.out)
                simp [set4] at r0 r1 r2 r3
                simp [results, Tryd.results49, go_sem, r0, r1, r2, r3]
theorem rterm_step (M : Nat) (IH : RTermOk M) : RTermOk (M + 1) := by
  intro m s L w hm hm1 hs hL
  cases m with
  | zero => exact rterm_zero s L w hL
  | succ m =>
    have hm2 : m < M := by omega
    have hm3 : m ≤ 1000 := by omega
    cases hb : begB s [40] with
    | true => exact rterm_br M IH m s L w hm2 hm3 hs hL hb
    | false =>
      by_cases h1 : one2 s = none
      · cases h2 : begB s (wWithin ++ sp) with
        | true => exact rterm_within M IH m s L w hm2 hm3 hs hL hb h1 h2
        | false => exact rterm_word m s L w hm3 hs hL hb h1 h2
      · exact rterm_one M IH m s L w hm2 hm3 hs hL hb h1
theorem rterm_any : ∀ (M : Nat), RTermOk M
  | 0 => fun _ _ _ _ h => absurd h (Nat.not_lt_zero _)
  | M + 1 => rterm_step M (rterm_any M)
end Go.Proofs.YtobpacebpiabcaaDoor
