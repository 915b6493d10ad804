/- Events and logs in memory; in, Event, Log, CheckLog, valid: contracts (printed by expand.py). -/
import Derived.Test.YtobpacebpiabcaaDoorPkBf
namespace Go.Proofs.YtobpacebpiabcaaDoor
open Go.RowKit Go.Lib

/-- From address A on lie the events of the log. -/
def EvA (w : World) (A : Option Addr) (log : List Ev) : Prop :=
  log = [] ∨ ∃ b off, A = some ⟨b, off, none⟩ ∧ b < w.heap.size ∧ ∀ k, k < log.length → ∃ u, w.cell? ⟨b, off + k * 2, none⟩ = some (.int .i64 (dayAt log k)) ∧ w.cell? ⟨b, off + k * 2 + 1, none⟩ = some u ∧ StrV w u (marksAt log k)
def EvV (w : World) (v : Value) (log : List Ev) : Prop := ∃ A c, v = .slice A log.length c ∧ log.length ≤ c ∧ c ≤ maxLen ∧ (A = none → c = 0) ∧ EvA w A log
theorem EvA.below {w w' : World} {A : Option Addr} {l : List Ev} (h : EvA w A l) (hb : Below w.heap.size w w') : EvA w' A l := by
  rcases h with h | ⟨b, off, hA, hlt, hc⟩
  · exact .inl h
  · refine .inr ⟨b, off, hA, Nat.lt_of_lt_of_le hlt hb.size, fun k hk => ?_⟩
    obtain ⟨u, h1, h2, h3⟩ := hc k hk
    exact ⟨u, (hb.cell hlt).trans h1, (hb.cell hlt).trans h2, h3.below hb⟩
theorem EvV.below {w w' : World} {v : Value} {l : List Ev} (h : EvV w v l) (hb : Below w.heap.size w w') : EvV w' v l := by
  obtain ⟨A, c, h1, h2, h3, h4, h5⟩ := h
  exact ⟨A, c, h1, h2, h3, h4, h5.below hb⟩
theorem EvA.get {w : World} {A : Option Addr} {log : List Ev} (h : EvA w A log) {k : Nat} (hk : k < log.length) :
    ∃ b off u, A = some ⟨b, off, none⟩ ∧ b < w.heap.size ∧ w.cell? ⟨b, off + k * 2, none⟩ = some (.int .i64 (dayAt log k)) ∧ w.cell? ⟨b, off + k * 2 + 1, none⟩ = some u ∧ StrV w u (marksAt log k) := by
  rcases h with h | ⟨b, off, hA, hb, hc⟩
  · subst h; simp at hk
  · obtain ⟨u, h1, h2, h3⟩ := hc k hk
    exact ⟨b, off, u, hA, hb, h1, h2, h3⟩
/-- All days are numbers of the machine, no mark is too long. -/
def EvFit (log : List Ev) : Prop := ∀ e ∈ log, I64 e.1 ∧ Lean6 e.2
theorem EvFit.get {log : List Ev} (h : EvFit log) (k : Nat) : I64 (dayAt log k) ∧ Lean6 (marksAt log k) := by
  unfold dayAt marksAt
  by_cases hk : k < log.length
  · rw [List.getD_eq_getElem?_getD, List.getElem?_eq_getElem hk]; exact h _ (List.getElem_mem hk)
  · rw [List.getD_eq_getElem?_getD, List.getElem?_eq_none (by omega)]
    exact ⟨⟨by decide, by decide⟩, fun s hs => by cases hs⟩
/-- May the event follow one on the day? -/
def evB (e : Ev) (day : Int) : Bool := decide (max day 0 ≤ e.1) && decide (e.1 ≤ 1000000) && namesB e.2 8
def lastDay (log : List Ev) (k : Nat) : Int := if k = 0 then 0 else dayAt log (k - 1)
def evAt (log : List Ev) (k : Nat) : Bool := decide (lastDay log k ≤ dayAt log k) && decide (dayAt log k ≤ 1000000) && namesB (marksAt log k) 8
def logTo (log : List Ev) (k : Nat) : Bool := (List.range k).all (evAt log)
theorem logTo_zero (log : List Ev) : logTo log 0 = true := rfl
theorem logTo_succ (log : List Ev) (k : Nat) : logTo log (k + 1) = (logTo log k && evAt log k) := by
  unfold logTo
  rw [List.range_succ, List.all_append]
  simp
theorem logTo_no {log : List Ev} {k n : Nat} (h : evAt log k = false) (hk : k < n) : logTo log n = false := by
  rw [← Bool.not_eq_true]
  intro h2
  unfold logTo at h2
  rw [List.all_eq_true] at h2
  have := h2 k (by simpa using hk)
  rw [h] at this
  cases this
theorem lastDay_pos {log : List Ev} : ∀ {k : Nat}, logTo log k = true → 0 ≤ lastDay log k
  | 0, _ => by simp [lastDay]
  | k + 1, h => by
    rw [logTo_succ, Bool.and_eq_true] at h
    have h1 := lastDay_pos h.1
    have h2 := h.2
    simp only [evAt, Bool.and_eq_true, decide_eq_true_eq] at h2
    show 0 ≤ if k + 1 = 0 then 0 else dayAt log (k + 1 - 1)
    rw [if_neg (by omega)]
    simp only [Nat.add_sub_cancel]
    omega
theorem lastDay_succ (log : List Ev) (k : Nat) : lastDay log (k + 1) = dayAt log k := rfl
def logB (log : List Ev) : Bool := decide (log.length ≤ 256) && logTo log log.length
theorem refin_any (v lo hi : Int) (w : World) : Calls Tryd.prog 58 #[.int .i64 v, .int .i64 lo, .int .i64 hi] w (RetV (.bool (decide (lo ≤ v) && decide (v ≤ hi))) w) := by
  by_cases h : lo ≤ v
  · rw [decide_eq_true h, Bool.true_and]
    go_enter Tryd.func58, Tryd.ntmps58
    go_wp2
    go_ret
    exact ⟨rfl, rfl⟩
  · have d : decide (lo ≤ v) = false := decide_eq_false h
    rw [d, Bool.false_and]
    go_enter Tryd.func58, Tryd.ntmps58
    go_wp2
    go_ret
    exact ⟨rfl, rfl⟩
set_option maxHeartbeats 1600000 in
theorem refevent_any (d day : Int) (u : Value) (l : List (List UInt8)) (w : World) (h : StrV w u l) (hl : Lean6 l) : Calls Tryd.prog 61 #[.agg #[.int .i64 d, u], .int .i64 day] w (RetW (.bool (evB (d, l) day)) w) := by
  have HU := Lib.hid h
  have cn : ∀ W (_ : Below w.heap.size w W), Calls Tryd.prog 75 #[u, .int .i64 8] W (RetW (.bool (namesB l 8)) W) := fun W hb => refnames_any 8 (HU.out.below hb) hl
  have hE : evB (d, l) day = (decide (max day 0 ≤ d) && decide (d ≤ 1000000) && namesB l 8) := rfl
  rw [hE]
  clear hE HU h hl
  generalize namesB l 8 = s at *
  have hm : (day < 0 ∧ max day 0 = 0) ∨ (day = 0 ∧ max day 0 = 0) ∨ (0 < day ∧ max day 0 = day) := by omega
  rcases hm with ⟨h0, hm⟩ | ⟨rfl, hm⟩ | ⟨h0, hm⟩
  all_goals
    rw [hm]
    clear hm
  · have ci := fun W => refin_any d (0) 1000000 W
    generalize (decide (0 ≤ d) && decide (d ≤ 1000000)) = r at *
    cases r
    · go_enter Tryd.func61, Tryd.ntmps61
      go_wp2_with fail
      refine (ci _).mono ?_
      rintro e W1 ⟨rfl, rfl⟩
      clear ci
      go_wp2
      go_ret
      exact ⟨rfl, (Below.refl _ _).alloc (Nat.le_refl _) _⟩
    · go_enter Tryd.func61, Tryd.ntmps61
      go_wp2_with fail
      refine (ci _).mono ?_
      rintro e W1 ⟨rfl, rfl⟩
      clear ci
      go_wp2_with fail
      have cc := cn (w.alloc (.cells #[.int .i64 d, u] 38)) ((Below.refl _ _).alloc (Nat.le_refl _) _)
      refine cc.mono ?_
      rintro e W1 ⟨rfl, hb⟩
      have HB := Lib.hid (show Below w.heap.size w W1 from ((Below.refl _ _).alloc (Nat.le_refl _) _).trans (hb.mono (by simp)))
      clear cc hb cn
      go_wp2
      go_ret
      exact ⟨rfl, HB.out⟩
  · have ci := fun W => refin_any d (0) 1000000 W
    generalize (decide (0 ≤ d) && decide (d ≤ 1000000)) = r at *
    cases r
    · go_enter Tryd.func61, Tryd.ntmps61
      go_wp2_with fail
      refine (ci _).mono ?_
      rintro e W1 ⟨rfl, rfl⟩
      clear ci
      go_wp2
      go_ret
      exact ⟨rfl, (Below.refl _ _).alloc (Nat.le_refl _) _⟩
    · go_enter Tryd.func61, Tryd.ntmps61
      go_wp2_with fail
      refine (ci _).mono ?_
      rintro e W1 ⟨rfl, rfl⟩
      clear ci
      go_wp2_with fail
      have cc := cn (w.alloc (.cells #[.int .i64 d, u] 38)) ((Below.refl _ _).alloc (Nat.le_refl _) _)
      refine cc.mono ?_
      rintro e W1 ⟨rfl, hb⟩
      have HB := Lib.hid (show Below w.heap.size w W1 from ((Below.refl _ _).alloc (Nat.le_refl _) _).trans (hb.mono (by simp)))
      clear cc hb cn
      go_wp2
      go_ret
      exact ⟨rfl, HB.out⟩
  · have ci := fun W => refin_any d (day) 1000000 W
    generalize (decide (day ≤ d) && decide (d ≤ 1000000)) = r at *
    cases r
    · go_enter Tryd.func61, Tryd.ntmps61
      go_wp2_with fail
      refine (ci _).mono ?_
      rintro e W1 ⟨rfl, rfl⟩
      clear ci
      go_wp2
      go_ret
      exact ⟨rfl, (Below.refl _ _).alloc (Nat.le_refl _) _⟩
    · go_enter Tryd.func61, Tryd.ntmps61
      go_wp2_with fail
      refine (ci _).mono ?_
      rintro e W1 ⟨rfl, rfl⟩
      clear ci
      go_wp2_with fail
      have cc := cn (w.alloc (.cells #[.int .i64 d, u] 38)) ((Below.refl _ _).alloc (Nat.le_refl _) _)
      refine cc.mono ?_
      rintro e W1 ⟨rfl, hb⟩
      have HB := Lib.hid (show Below w.heap.size w W1 from ((Below.refl _ _).alloc (Nat.le_refl _) _).trans (hb.mono (by simp)))
      clear cc hb cn
      go_wp2
      go_ret
      exact ⟨rfl, HB.out⟩
set_option maxHeartbeats 1600000 in
theorem reflog_any {v : Value} {log : List Ev} {w : World} (h : EvV w v log) (hf : EvFit log) : Calls Tryd.prog 44 #[v] w (RetW (.bool (logTo log log.length)) w) := by
  obtain ⟨A, c, rfl, hc, hm, h4, hA⟩ := h
  have HS := Lib.hid (logTo_succ log)
  have HNO := Lib.hid (fun k n (h : evAt log k = false) (hk : k < n) => logTo_no h hk)
  have HP := Lib.hid (fun k (h : logTo log k = true) => lastDay_pos h)
  have HF := Lib.hid hf
  have HLB := Lib.hid (show logTo log log.length = logTo log log.length from rfl)
  obtain ⟨n, hn⟩ : ∃ n, log.length = n := ⟨_, rfl⟩
  have HN := Lib.hid hn
  have HA := Lib.hid hA
  rw [hn] at hc ⊢
  unfold maxLen at hm
  clear hn hf hA h4 HLB
  go_enter Tryd.func44, Tryd.ntmps44
  go_wp2
  go_loopw [3, 4] (fun d i wr => ∃ k : Nat, k ≤ n ∧ i = .int .i64 k ∧ d = .int .i64 (lastDay log k) ∧ logTo log k = true ∧ Below w.heap.size w wr) (fun _ i _ => n - (intOf i).toNat)
  case atStart => exact ⟨0, Nat.zero_le _, rfl, rfl, logTo_zero log, Below.refl _ _⟩
  case round =>
    obtain ⟨k, hk, rfl, rfl, hok, hbw⟩ := hrel
    have HB := Lib.hid hbw
    clear hbw
    by_cases hlt : k < n
    · obtain ⟨b, off, u, rfl, hb, hc0, hc1, hu⟩ := HA.out.get (k := k) (by rw [HN.out]; exact hlt)
      replace hc0 := (HB.out.cell (p := ⟨b, off + k * 2, none⟩) hb).trans hc0
      replace hc1 := (HB.out.cell (p := ⟨b, off + k * 2 + 1, none⟩) hb).trans hc1
      have hp := HP.out k hok
      have ce := refevent_any (dayAt log k) (lastDay log k) u (marksAt log k) wr (hu.below HB.out) (HF.out.get k).2
      have hev : evB (dayAt log k, marksAt log k) (lastDay log k) = evAt log k := by
        show (decide (max (lastDay log k) 0 ≤ dayAt log k) && _ && _) = _
        rw [show max (lastDay log k) 0 = lastDay log k by omega]
        rfl
      rw [hev] at ce
      have hs := HS.out k
      rw [hok, Bool.true_and] at hs
      have hno := fun h => HNO.out k n h hlt
      have hls := lastDay_succ log k
      clear hev hok hp hu
      generalize lastDay log k = ld at *
      generalize dayAt log k = dk at *
      generalize evAt log k = r at *
      have HLS := Lib.hid hls
      have HS2 := Lib.hid hs
      have HNO2 := Lib.hid hno
      have HC := Lib.hid hc0
      clear hls hs hno HS HNO HP
      cases r with
      | false =>
        have HR := Lib.hid (HNO2.out rfl)
        go_wp2_with fail
        refine ce.mono ?_
        rintro e W1 ⟨rfl, hn1⟩
        have HW1 := Lib.hid (HB.out.trans (hn1.mono HB.out.size))
        clear hn1 ce hc0 hc1
        go_wp2_with fail
        go_ret
        exact ⟨by rw [HR.out]; rfl, HW1.out⟩
      | true =>
        go_wp2_with fail
        refine ce.mono ?_
        rintro e W1 ⟨rfl, hn1⟩
        have HW1 := Lib.hid (HB.out.trans (hn1.mono HB.out.size))
        have hc2 := (hn1.cell (p := ⟨b, off + k * 2, none⟩) (Nat.lt_of_lt_of_le hb HB.out.size)).trans HC.out
        clear hn1 ce hc0 hc1
        go_wp2_with fail
        go_roundw
        case rel => exact ⟨k + 1, by omega, by go_num, by rw [HLS.out], HS2.out, HW1.out⟩
        case measure => simp [intOf]; omega
    · have hkn : k = n := by omega
      subst hkn
      have HOK := Lib.hid hok
      clear hok HS HNO HP
      go_wp2
      go_ret
      exact ⟨by rw [HOK.out]; rfl, HB.out⟩
end Go.Proofs.YtobpacebpiabcaaDoor
