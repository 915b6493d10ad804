/- CheckLog, the law's valid: contracts (printed by expand.py). -/
import Derived.Test.YtobpacebpiabcaaDoorBh
namespace Go.Proofs.YtobpacebpiabcaaDoor
open Go.RowKit Go.Lib

theorem cell_new (w : World) (cs : Array Value) (t : TypeId) (o : Nat) : (w.alloc (.cells cs t)).cell? ⟨w.heap.size, o, none⟩ = cs[o]? := by
  have h0 := heap_alloc_new w (.cells cs t)
  simp only [World.cell?, h0, Option.isSome_none, Bool.false_eq_true, if_false]
theorem StrV.form {w : World} {v : Value} {l : List (List UInt8)} (h : StrV w v l) : ∃ A n c, v = .slice A n c := by
  obtain ⟨A, c, h, _⟩ := h
  exact ⟨A, _, c, h⟩
theorem logB_eq (log : List Ev) : logB log = (decide (log.length ≤ 256) && logTo log log.length) := rfl
/-- What CheckLog replies. -/
def logN (log : List Ev) : Int := if logB log then 0 else 1
theorem logN_yes {log : List Ev} (h : logB log = true) : logN log = 0 := by rw [logN, if_pos h]
theorem logN_no {log : List Ev} (h : logB log = false) : logN log = 1 := by rw [logN, if_neg (by rw [h]; decide)]
theorem evAt_eq (log : List Ev) (k : Nat) : evAt log k = (decide (lastDay log k ≤ dayAt log k) && decide (dayAt log k ≤ 1000000) && namesB (marksAt log k) 8) := rfl
set_option maxHeartbeats 3200000 in
theorem checklog_any {v : Value} {log : List Ev} {w : World} (h : EvV w v log) (hf : EvFit log) : Calls Tryd.prog 23 #[v] w (RetW (.int .i64 (logN log)) w) := by
  obtain ⟨A, c, rfl, hc, hm, h4, hA⟩ := h
  have HS := Lib.hid (logTo_succ log)
  have HF := Lib.hid hf
  obtain ⟨n, hn⟩ : ∃ n, log.length = n := ⟨_, rfl⟩
  have HL := Lib.hid (logB_eq log)
  have HN := Lib.hid hn
  have HA := Lib.hid hA
  rw [hn] at hc ⊢
  unfold maxLen at hm
  clear hn hf hA h4
  have hcs : (∃ p : Bool × Unit, p = (true, ()) ∧ n ≤ 256) ∨ (∃ p : Bool × Unit, p = (false, ()) ∧ ¬ n ≤ 256) := by
    by_cases h : n ≤ 256
    · exact .inl ⟨_, rfl, h⟩
    · exact .inr ⟨_, rfl, h⟩
  rcases hcs with ⟨p, hp, h0⟩ | ⟨p, hp, h0⟩
  · have HB0 := Lib.hid (show decide (n ≤ 256) = p.1 by rw [hp, decide_eq_true h0])
    have HP := Lib.hid hp
    have d : (n : Int) ≤ 256 := by omega
    clear hp h0
    go_enter Tryd.func23, Tryd.ntmps23
    go_wp2
    clear d
    go_loopw [3, 4, 12] (fun o d i wr => ∃ (k : Nat) (q : Bool × Unit), k ≤ n ∧ i = .int .i64 k ∧ o = .bool q.1 ∧ q.1 = (p.1 && logTo log k) ∧ d = .int .i64 (lastDay log k) ∧ Below w.heap.size w wr) (fun _ _ i _ => n - (intOf i).toNat)
    case atStart => exact ⟨0, (true, ()), Nat.zero_le _, rfl, rfl, by rw [HP.out, logTo_zero]; rfl, rfl, Below.refl _ _⟩
    case round =>
      obtain ⟨k, q, hk, rfl, rfl, hq, rfl, hbw⟩ := hrel
      have HB := Lib.hid hbw
      have HQ := Lib.hid hq
      clear hbw hq
      by_cases hlt : k < n
      · obtain ⟨b, off, u, rfl, hb, hc0, hc1, hu⟩ := HA.out.get (k := k) (by rw [HN.out]; exact hlt)
        replace hc0 := (HB.out.cell (p := ⟨b, off + k * 2, none⟩) hb).trans hc0
        replace hc1 := (HB.out.cell (p := ⟨b, off + k * 2 + 1, none⟩) hb).trans hc1
        obtain ⟨A2, n2, c2, rfl⟩ := hu.form
        have HU := Lib.hid hu
        have cm : ∀ W (_ : Below w.heap.size w W), Calls Tryd.prog 43 #[.slice A2 n2 c2] W (RetW (.bool (namesB (marksAt log k) 8)) W) := fun W hb => marked_any (HU.out.below hb) (HF.out.get k).2
        have hev := evAt_eq log k
        have hs := HS.out k
        rw [hev] at hs
        have hls := lastDay_succ log k
        have h64 := (HF.out.get k).1
        clear hev hu HU
        generalize namesB (marksAt log k) 8 = r at *
        generalize lastDay log k = ld at *
        generalize dayAt log k = dk at *
        have HLS := Lib.hid hls
        obtain ⟨b1, hb1⟩ : ∃ b1, decide (ld ≤ dk) = b1 := ⟨_, rfl⟩
        obtain ⟨b2, hb2⟩ : ∃ b2, decide (dk ≤ 1000000) = b2 := ⟨_, rfl⟩
        rw [hb1, hb2] at hs
        have HS2 := Lib.hid hs
        have H64 := Lib.hid h64
        have HW := Lib.hid (show Below w.heap.size w (wr.alloc (.cells #[.int .i64 dk, .slice A2 n2 c2] 38)) from HB.out.alloc HB.out.size _)
        have HBX := Lib.hid (show (wr.alloc (.cells #[.int .i64 dk, .slice A2 n2 c2] 38)).cell? ⟨wr.heap.size, 0, none⟩ = some (.int .i64 dk) ∧ wr.heap.size < (wr.alloc (.cells #[.int .i64 dk, .slice A2 n2 c2] 38)).heap.size from ⟨cell_new _ _ _ _, by simp⟩)
        clear hs hls h64 HS
        obtain ⟨q, qu⟩ := q
        have HQ : Hid (q = (p.1 && logTo log k)) := HQ
        by_cases hok : q = true ∧ b1 = true ∧ b2 = true
        · obtain ⟨rfl, rfl, rfl⟩ := hok
          have HR := Lib.hid (show (r, ()).1 = (p.1 && logTo log (k + 1)) by
            have h := HQ.out
            rw [HS2.out]
            revert h
            cases p.1 <;> cases logTo log k <;> simp)
          go_wp2_with fail
          have cc := cm _ HW.out
          clear cm
          refine cc.mono ?_
          rintro e W1 ⟨rfl, hn1⟩
          have HW1 := Lib.hid (HW.out.trans (hn1.mono HW.out.size))
          have hc2 := (hn1.cell (p := ⟨wr.heap.size, 0, none⟩) HBX.out.2).trans HBX.out.1
          clear hn1 cc hc0 hc1 hb1 hb2
          obtain ⟨r, rfl⟩ : ∃ r' : Bool × Unit, r = r'.1 := ⟨(r, ()), rfl⟩
          go_wp2_with fail
          go_roundw
          case rel => exact ⟨k + 1, r, by omega, by go_num, rfl, HR.out, by rw [HLS.out], HW1.out⟩
          case measure => simp [intOf]; omega
        · have HR := Lib.hid (show (false, ()).1 = (p.1 && logTo log (k + 1)) by
            have h := HQ.out
            rw [HS2.out]
            revert h hok
            cases p.1 <;> cases logTo log k <;> cases b1 <;> cases b2 <;> cases q <;> cases r <;> simp)
          clear cm
          have hcase : q = false ∨ (q = true ∧ b1 = false) ∨ (q = true ∧ b1 = true ∧ b2 = false) := by
            cases q <;> cases b1 <;> cases b2 <;> simp at hok ⊢
          clear hok
          rcases hcase with rfl | ⟨rfl, rfl⟩ | ⟨rfl, rfl, rfl⟩
          all_goals
            go_wp2_with fail
            go_roundw
            case rel => exact ⟨k + 1, (false, ()), by omega, by go_num, rfl, HR.out, by rw [HLS.out], HW.out⟩
            case measure => simp [intOf]; omega
      · have hkn : k = n := by omega
        subst hkn
        have HD := Lib.hid (show logB log = q.1 by rw [HL.out, HN.out, HQ.out, HB0.out])
        clear HS
        obtain ⟨q, qu⟩ := q
        cases q
        · go_wp2
          go_ret
          exact ⟨by rw [logN_no HD.out]; rfl, HB.out⟩
        · go_wp2
          go_ret
          exact ⟨by rw [logN_yes HD.out]; rfl, HB.out⟩
  · have HB0 := Lib.hid (show decide (n ≤ 256) = p.1 by rw [hp, decide_eq_false h0])
    have HP := Lib.hid hp
    have d : decide ((n : Int) ≤ 256) = false := decide_eq_false (by omega)
    clear hp h0
    go_enter Tryd.func23, Tryd.ntmps23
    go_wp2
    clear d
    go_loopw [3, 4, 12] (fun o d i wr => ∃ (k : Nat) (q : Bool × Unit), k ≤ n ∧ i = .int .i64 k ∧ o = .bool q.1 ∧ q.1 = (p.1 && logTo log k) ∧ d = .int .i64 (lastDay log k) ∧ Below w.heap.size w wr) (fun _ _ i _ => n - (intOf i).toNat)
    case atStart => exact ⟨0, (false, ()), Nat.zero_le _, rfl, rfl, by rw [HP.out, logTo_zero]; rfl, rfl, Below.refl _ _⟩
    case round =>
      obtain ⟨k, q, hk, rfl, rfl, hq, rfl, hbw⟩ := hrel
      have HB := Lib.hid hbw
      have HQ := Lib.hid hq
      clear hbw hq
      by_cases hlt : k < n
      · obtain ⟨b, off, u, rfl, hb, hc0, hc1, hu⟩ := HA.out.get (k := k) (by rw [HN.out]; exact hlt)
        replace hc0 := (HB.out.cell (p := ⟨b, off + k * 2, none⟩) hb).trans hc0
        replace hc1 := (HB.out.cell (p := ⟨b, off + k * 2 + 1, none⟩) hb).trans hc1
        obtain ⟨A2, n2, c2, rfl⟩ := hu.form
        have HU := Lib.hid hu
        have cm : ∀ W (_ : Below w.heap.size w W), Calls Tryd.prog 43 #[.slice A2 n2 c2] W (RetW (.bool (namesB (marksAt log k) 8)) W) := fun W hb => marked_any (HU.out.below hb) (HF.out.get k).2
        have hev := evAt_eq log k
        have hs := HS.out k
        rw [hev] at hs
        have hls := lastDay_succ log k
        have h64 := (HF.out.get k).1
        clear hev hu HU
        generalize namesB (marksAt log k) 8 = r at *
        generalize lastDay log k = ld at *
        generalize dayAt log k = dk at *
        have HLS := Lib.hid hls
        obtain ⟨b1, hb1⟩ : ∃ b1, decide (ld ≤ dk) = b1 := ⟨_, rfl⟩
        obtain ⟨b2, hb2⟩ : ∃ b2, decide (dk ≤ 1000000) = b2 := ⟨_, rfl⟩
        rw [hb1, hb2] at hs
        have HS2 := Lib.hid hs
        have H64 := Lib.hid h64
        have HW := Lib.hid (show Below w.heap.size w (wr.alloc (.cells #[.int .i64 dk, .slice A2 n2 c2] 38)) from HB.out.alloc HB.out.size _)
        have HBX := Lib.hid (show (wr.alloc (.cells #[.int .i64 dk, .slice A2 n2 c2] 38)).cell? ⟨wr.heap.size, 0, none⟩ = some (.int .i64 dk) ∧ wr.heap.size < (wr.alloc (.cells #[.int .i64 dk, .slice A2 n2 c2] 38)).heap.size from ⟨cell_new _ _ _ _, by simp⟩)
        clear hs hls h64 HS
        obtain ⟨q, qu⟩ := q
        have HQ : Hid (q = (p.1 && logTo log k)) := HQ
        by_cases hok : q = true ∧ b1 = true ∧ b2 = true
        · obtain ⟨rfl, rfl, rfl⟩ := hok
          have HR := Lib.hid (show (r, ()).1 = (p.1 && logTo log (k + 1)) by
            have h := HQ.out
            rw [HS2.out]
            revert h
            cases p.1 <;> cases logTo log k <;> simp)
          go_wp2_with fail
          have cc := cm _ HW.out
          clear cm
          refine cc.mono ?_
          rintro e W1 ⟨rfl, hn1⟩
          have HW1 := Lib.hid (HW.out.trans (hn1.mono HW.out.size))
          have hc2 := (hn1.cell (p := ⟨wr.heap.size, 0, none⟩) HBX.out.2).trans HBX.out.1
          clear hn1 cc hc0 hc1 hb1 hb2
          obtain ⟨r, rfl⟩ : ∃ r' : Bool × Unit, r = r'.1 := ⟨(r, ()), rfl⟩
          go_wp2_with fail
          go_roundw
          case rel => exact ⟨k + 1, r, by omega, by go_num, rfl, HR.out, by rw [HLS.out], HW1.out⟩
          case measure => simp [intOf]; omega
        · have HR := Lib.hid (show (false, ()).1 = (p.1 && logTo log (k + 1)) by
            have h := HQ.out
            rw [HS2.out]
            revert h hok
            cases p.1 <;> cases logTo log k <;> cases b1 <;> cases b2 <;> cases q <;> cases r <;> simp)
          clear cm
          have hcase : q = false ∨ (q = true ∧ b1 = false) ∨ (q = true ∧ b1 = true ∧ b2 = false) := by
            cases q <;> cases b1 <;> cases b2 <;> simp at hok ⊢
          clear hok
          rcases hcase with rfl | ⟨rfl, rfl⟩ | ⟨rfl, rfl, rfl⟩
          all_goals
            go_wp2_with fail
            go_roundw
            case rel => exact ⟨k + 1, (false, ()), by omega, by go_num, rfl, HR.out, by rw [HLS.out], HW.out⟩
            case measure => simp [intOf]; omega
      · have hkn : k = n := by omega
        subst hkn
        have HD := Lib.hid (show logB log = q.1 by rw [HL.out, HN.out, HQ.out, HB0.out])
        clear HS
        obtain ⟨q, qu⟩ := q
        cases q
        · go_wp2
          go_ret
          exact ⟨by rw [logN_no HD.out]; rfl, HB.out⟩
        · go_wp2
          go_ret
          exact ⟨by rw [logN_yes HD.out]; rfl, HB.out⟩
end Go.Proofs.YtobpacebpiabcaaDoor
