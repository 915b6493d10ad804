/- Texts Bc Bd Be in one. -/
import Derived.Test.YtobpacebpiabcaaGreatDoorPkBa
import Derived.Test.YtobpacebpiabcaaGreatDoorPkAd
import Derived.Lib.Hide
import Derived.Deep.DeepCutAuto
import Derived.Deep.LoopGhost
namespace Go.Proofs.YtobpacebpiabcaaGreatDoor
open Go.RowKit Go.Lib

/-- A function that only makes memory. -/
def RetW (v : Value) (w : World) (e : Ending) (w' : World) : Prop := e = .returned v ∧ Below w.heap.size w w'
def str (x : List UInt8) : Value := .string ⟨x.toArray⟩
/-- From address A on lie the strings l. -/
def StrA (w : World) (A : Option Addr) (l : List (List UInt8)) : Prop := At w A (l.map str)
/-- The slice value v holds the strings l. -/
def StrV (w : World) (v : Value) (l : List (List UInt8)) : Prop := ∃ A c, v = .slice A l.length c ∧ l.length ≤ c ∧ c ≤ maxLen ∧ (A = none → c = 0) ∧ StrA w A l
theorem StrA.below {w w' : World} {A : Option Addr} {l : List (List UInt8)} (h : StrA w A l) (hb : Below w.heap.size w w') : StrA w' A l := At.below h hb
theorem StrV.below {w w' : World} {v : Value} {l : List (List UInt8)} (h : StrV w v l) (hb : Below w.heap.size w w') : StrV w' v l := by
  obtain ⟨A, c, h1, h2, h3, h4, h5⟩ := h
  exact ⟨A, c, h1, h2, h3, h4, h5.below hb⟩
theorem StrA.get {w : World} {A : Option Addr} {l : List (List UInt8)} (h : StrA w A l) {k : Nat} (hk : k < l.length) :
    ∃ b off, A = some ⟨b, off, none⟩ ∧ b < w.heap.size ∧ w.cell? ⟨b, off + k, none⟩ = some (.string ⟨l[k].toArray⟩) := by
  rcases h with h | ⟨b, off, hA, hb, hc⟩
  · have : l = [] := by simpa using h
    subst this
    simp at hk
  · exact ⟨b, off, hA, hb, hc k _ (by simp [hk, str])⟩
/-- Is x in the list? -/
def hasB (l : List (List UInt8)) (x : List UInt8) : Bool := l.contains x
theorem contains_take_succ (l : List (List UInt8)) (x : List UInt8) (k : Nat) (hk : k < l.length) : hasB (l.take (k + 1)) x = (hasB (l.take k) x || (x == l[k])) := by
  unfold hasB
  rw [List.take_succ_eq_append_getElem hk]
  rw [Bool.eq_iff_iff]
  simp only [List.contains_eq_mem, decide_eq_true_eq, Bool.or_eq_true, beq_iff_eq, List.mem_append, List.mem_singleton]
theorem hasB_nil (x : List UInt8) : hasB [] x = false := rfl
theorem hasB_mem {l : List (List UInt8)} {x : List UInt8} : hasB l x = true ↔ x ∈ l := by simp [hasB]
/-- An index that tells whether there is one. -/
def RetIdx (b : Bool) (w : World) (e : Ending) (w' : World) : Prop := ∃ i : Int, e = .returned (.int .i64 i) ∧ decide (0 ≤ i) = b ∧ w = w'
set_option maxHeartbeats 800000 in
theorem index_any (A : Option Addr) (n c : Nat) (l : List (List UInt8)) (x : List UInt8) (w : World) (hn : l.length = n) (hl : StrA w A l) (hc : n ≤ c) (hm : c ≤ maxLen) :
    Calls Tryz.prog 106 #[.slice A n c, .string ⟨x.toArray⟩] w (RetIdx (hasB l x) w) := by
  have HN := Lib.hid hn
  have HL := Lib.hid hl
  unfold maxLen at hm
  clear hn hl
  go_enter Tryz.func106, Tryz.ntmps106
  go_wp2
  go_loop [8] (fun i => ∃ k : Nat, k ≤ n ∧ i = .int .i64 k ∧ hasB (l.take k) x = false) (fun i => n - (intOf i).toNat)
  case atStart => exact ⟨0, Nat.zero_le _, rfl, hasB_nil x⟩
  case round =>
    obtain ⟨k, hk, rfl, hnc⟩ := hrel
    by_cases hlt : k < n
    · obtain ⟨b, off, rfl, hb, hcell⟩ := HL.out.get (k := k) (by rw [HN.out]; exact hlt)
      have hs := contains_take_succ l x k (by rw [HN.out]; exact hlt)
      rw [hnc, Bool.false_or] at hs
      have hmem : (x == l[k]'(by rw [HN.out]; exact hlt)) = true → hasB l x = true := fun h => by
        rw [beq_iff_eq] at h
        rw [hasB_mem, h]
        exact List.getElem_mem _
      generalize l[k]'(by rw [HN.out]; exact hlt) = y at *
      have HS := Lib.hid hs
      have HM := Lib.hid hmem
      clear hs hmem hnc
      by_cases he : (x == y) = true
      · have HM2 := Lib.hid (HM.out he)
        go_wp2
        go_ret
        exact ⟨_, rfl, by rw [HM2.out]; simp, rfl⟩
      · have he : (x == y) = false := by simpa using he
        go_wp2
        go_round
        case rel => exact ⟨k + 1, by omega, by go_num, by rw [HS.out, he]⟩
        case measure => simp [intOf]; omega
    · have HC := Lib.hid hnc
      clear hnc
      go_wp2
      go_ret
      refine ⟨_, rfl, ?_, rfl⟩
      have h := HC.out
      rw [List.take_of_length_le (by rw [HN.out]; omega)] at h
      rw [h]
      rfl
theorem has_any {v : Value} {l : List (List UInt8)} (x : List UInt8) {w : World} (h : StrV w v l) : Calls Tryz.prog 85 #[v, .string ⟨x.toArray⟩] w (RetV (.bool (hasB l x)) w) := by
  obtain ⟨A, c, rfl, h2, h3, h4, h5⟩ := h
  have cc := fun W (h : StrA W A l) => index_any A l.length c l x W rfl h h2 h3
  generalize l.length = n at *
  generalize hasB l x = r at *
  have H5 := Lib.hid h5
  clear h5
  go_enter Tryz.func85, Tryz.ntmps85
  go_wp2_with (go_at_call 106; refine (cc _ H5.out).mono ?_; rintro e w' ⟨i, rfl, hi, rfl⟩)
  go_ret
  exact ⟨rfl, rfl⟩
/-- What words returns. -/
def RetStr (l : List (List UInt8)) (w : World) (e : Ending) (w' : World) : Prop := ∃ v, e = .returned v ∧ StrV w' v l ∧ Below w.heap.size w w'
theorem strV_lit (w : World) (l : List (List UInt8)) (n : Nat) (t : TypeId) (hn : l.length = n) (hl : n ≤ 1000) : StrV (w.alloc (.cells (l.map str).toArray t)) (.slice (some ⟨w.heap.size, 0, none⟩) n n) l := by
  subst hn
  refine ⟨_, _, rfl, Nat.le_refl _, by unfold maxLen; omega, (fun h => by cases h), .inr ⟨_, 0, rfl, by simp, fun j v hj => ?_⟩⟩
  have h0 := heap_alloc_new w (.cells (l.map str).toArray t)
  simp only [World.cell?, h0]
  simpa using hj
theorem words_any (w : World) : Calls Tryz.prog 105 #[] w (RetStr words w) := by
  go_enter Tryz.func105, Tryz.ntmps105
  go_wp2
  go_ret
  exact ⟨_, rfl, strV_lit w words 9 _ rfl (by omega), (Below.refl _ _).alloc (Nat.le_refl _) _⟩
end Go.Proofs.YtobpacebpiabcaaGreatDoor

namespace Go.Proofs.YtobpacebpiabcaaGreatDoor
open Go.RowKit Go.Lib

/-- The first k bytes may begin a name. -/
def scanB (l : List UInt8) (k : Nat) : Bool := (decide (k = 0) || letB (l.headD 0)) && (l.take k).all ldB
theorem scan_zero (l : List UInt8) : scanB l 0 = true := rfl
theorem scan_succ (l : List UInt8) (k : Nat) (hk : k < l.length) : scanB l (k + 1) = (scanB l k && (letB l[k] || (decide (0 < k) && digB l[k]))) := by
  unfold scanB
  rw [List.take_succ_eq_append_getElem hk, List.all_append]
  cases k with
  | zero =>
    cases l with
    | nil => simp at hk
    | cons a r => simp [ldB]; cases letB a <;> simp
  | succ k =>
    simp only [List.all_cons, List.all_nil, Bool.and_true, ldB, Nat.add_eq_zero_iff, Nat.one_ne_zero, and_false, decide_false, Bool.false_or, Nat.zero_lt_succ, decide_true, Bool.true_and, Bool.and_assoc]
theorem isName_scan (l : List UInt8) : isName l = (decide (1 ≤ l.length) && decide (l.length ≤ 12) && !hasB words l && scanB l l.length) := by
  unfold isName scanB hasB
  rw [List.take_length]
  by_cases h : l.length = 0
  · simp [h]
  · rw [decide_eq_false h, Bool.false_or]
    show (_ && l.all ldB && _) = _
    cases letB (l.headD 0) <;> cases l.all ldB <;> cases words.contains l <;> cases decide (1 ≤ l.length) <;> cases decide (l.length ≤ 12) <;> rfl
theorem scan_more {l : List UInt8} : ∀ {k : Nat}, scanB l k = false → 0 < k → scanB l (k + 1) = false
  | 0, _, h => absurd h (by omega)
  | k + 1, h, _ => by
    by_cases hk : k + 1 < l.length
    · rw [scan_succ l (k + 1) hk, h]; rfl
    · unfold scanB at h ⊢
      rw [List.take_of_length_le (by omega)] at h ⊢
      exact h
theorem scan_all {l : List UInt8} {k : Nat} (h : scanB l k = false) (h0 : 0 < k) : ∀ m, k ≤ m → scanB l m = false := by
  intro m hm
  induction m with
  | zero => omega
  | succ m ih =>
    by_cases e : k = m + 1
    · rw [← e]; exact h
    · exact scan_more (ih (by omega)) (by omega)
theorem isName_no {l : List UInt8} {k : Nat} (h : scanB l (k + 1) = false) (hk : k < l.length) : isName l = false := by
  rw [isName_scan, scan_all h (by omega) _ (by omega), Bool.and_false]
theorem letB_eq (c : UInt8) (q : Nat) (h : c.toNat = q) : letB c = (decide (97 ≤ q) && decide (q ≤ 122)) := by rw [letB, h]
theorem digB_eq (c : UInt8) (q : Nat) (h : c.toNat = q) : digB c = (decide (48 ≤ q) && decide (q ≤ 57)) := by rw [digB, h]
set_option maxHeartbeats 1600000 in
theorem name_any (l : List UInt8) (w : World) (hl : l.length ≤ 1000000) : Calls Tryz.prog 84 #[.string ⟨l.toArray⟩] w (RetW (.bool (isName l)) w) := by
  have HS := Lib.hid (scan_succ l)
  have HNO := Lib.hid (fun k => @isName_no l k)
  obtain ⟨n, hn⟩ : ∃ n, l.length = n := ⟨_, rfl⟩
  have HIS := Lib.hid (isName_scan l)
  have hn1 : n ≤ 1000000 := by omega
  have HN := Lib.hid hn
  clear hn hl
  have hsz : (⟨l.toArray⟩ : ByteArray).size = n := by show l.toArray.size = _; simpa using HN.out
  go_enter Tryz.func84, Tryz.ntmps84
  go_wp2
  go_loop [7] (fun i => ∃ k : Nat, k ≤ n ∧ i = .int .i64 k ∧ scanB l k = true) (fun i => n - (intOf i).toNat)
  case atStart => exact ⟨0, Nat.zero_le _, rfl, scan_zero l⟩
  case round =>
    obtain ⟨k, hk, rfl, hsc⟩ := hrel
    by_cases hlt : k < n
    · have hlt2 : k < l.length := by rw [HN.out]; exact hlt
      have hs := HS.out k hlt2
      rw [hsc, Bool.true_and] at hs
      have hno := fun h => HNO.out k h hlt2
      obtain ⟨q, hq'⟩ : ∃ q, l[k].toNat = q := ⟨_, rfl⟩
      have hq : ((⟨l.toArray⟩ : ByteArray)[k]'(by show k < l.toArray.size; simpa using hlt2)).toNat = q := by
        rw [← hq']
        rfl
      rw [letB_eq _ _ hq', digB_eq _ _ hq'] at hs
      clear hq' hsc
      have HS2 := Lib.hid hs
      have HNO2 := Lib.hid hno
      clear hs hno
      by_cases hlet : 97 ≤ q ∧ q ≤ 122
      · obtain ⟨h1, h2⟩ := hlet
        have d1 : (97 : Int) ≤ (q : Int) := by omega
        have d2 : (q : Int) ≤ 122 := by omega
        have HR := Lib.hid (show scanB l (k + 1) = true by rw [HS2.out, decide_eq_true h1, decide_eq_true h2]; rfl)
        go_wp2
        go_round
        case rel => exact ⟨k + 1, by omega, by go_num, HR.out⟩
        case measure => simp [intOf]; omega
      · have hle : (decide (97 ≤ q) && decide (q ≤ 122)) = false := by
          by_cases h1 : 97 ≤ q
          · rw [decide_eq_false (show ¬ q ≤ 122 by omega), Bool.and_false]
          · rw [decide_eq_false h1]; rfl
        have hs := HS2.out
        rw [hle, Bool.false_or] at hs
        clear HS2 hle
        have hcase : k = 0 ∨ (0 < k ∧ q < 48) ∨ (0 < k ∧ 57 < q) ∨ (0 < k ∧ 48 ≤ q ∧ q ≤ 57) := by omega
        rcases hcase with rfl | ⟨h0, h1⟩ | ⟨h0, h1⟩ | ⟨h0, h1, h2⟩
        · have HR := Lib.hid (HNO2.out (by rw [hs]; rfl))
          clear hs HNO2
          by_cases h1 : 97 ≤ q
          · have d1 : (97 : Int) ≤ (q : Int) := by omega
            have d2 : decide ((q : Int) ≤ 122) = false := decide_eq_false (by omega)
            have d3 : (122 : Int) < (q : Int) := by omega
            clear hlet
            go_wp2
            go_ret
            exact ⟨by rw [HR.out]; rfl, Below.refl _ _⟩
          · have d1 : decide ((97 : Int) ≤ (q : Int)) = false := decide_eq_false (by omega)
            have d3 : (q : Int) < 97 := by omega
            clear hlet
            go_wp2
            go_ret
            exact ⟨by rw [HR.out]; rfl, Below.refl _ _⟩
        · have HR := Lib.hid (HNO2.out (by rw [hs, decide_eq_false (show ¬ 48 ≤ q by omega)]; simp))
          clear hs HNO2 hlet
          have d1 : decide ((97 : Int) ≤ (q : Int)) = false := decide_eq_false (by omega)
          have d3 : (q : Int) < 97 := by omega
          have d4 : (q : Int) < 48 := by omega
          have d5 : ((k : Int) == 0) = false := by rw [beq_eq_false_iff_ne]; omega
          go_wp2
          go_ret
          exact ⟨by rw [HR.out]; rfl, Below.refl _ _⟩
        · have HR := Lib.hid (HNO2.out (by rw [hs, decide_eq_false (show ¬ q ≤ 57 by omega)]; simp))
          clear hs HNO2
          have d5 : ((k : Int) == 0) = false := by rw [beq_eq_false_iff_ne]; omega
          have d6 : decide ((q : Int) < 48) = false := decide_eq_false (by omega)
          have d7 : (57 : Int) < (q : Int) := by omega
          by_cases h1 : 97 ≤ q
          · have d1 : (97 : Int) ≤ (q : Int) := by omega
            have d2 : decide ((q : Int) ≤ 122) = false := decide_eq_false (by omega)
            have d3 : (122 : Int) < (q : Int) := by omega
            clear hlet
            go_wp2
            go_ret
            exact ⟨by rw [HR.out]; rfl, Below.refl _ _⟩
          · have d1 : decide ((97 : Int) ≤ (q : Int)) = false := decide_eq_false (by omega)
            have d3 : (q : Int) < 97 := by omega
            clear hlet
            go_wp2
            go_ret
            exact ⟨by rw [HR.out]; rfl, Below.refl _ _⟩
        · have HR := Lib.hid (show scanB l (k + 1) = true by rw [hs, decide_eq_true h0, decide_eq_true h1, decide_eq_true h2]; rfl)
          clear hs HNO2 hlet
          have d1 : decide ((97 : Int) ≤ (q : Int)) = false := decide_eq_false (by omega)
          have d3 : (q : Int) < 97 := by omega
          have d5 : ((k : Int) == 0) = false := by rw [beq_eq_false_iff_ne]; omega
          have d6 : decide ((q : Int) < 48) = false := decide_eq_false (by omega)
          have d7 : decide ((57 : Int) < (q : Int)) = false := decide_eq_false (by omega)
          go_wp2
          go_round
          case rel => exact ⟨k + 1, by omega, by go_num, HR.out⟩
          case measure => simp [intOf]; omega
    · have hkn : k = n := by omega
      subst hkn
      have hi := HIS.out
      rw [HN.out, hsc, Bool.and_true] at hi
      have HI := Lib.hid hi
      clear hi HIS hsc
      have cw := fun W => words_any W
      have ch := fun W v (h : StrV W v words) => has_any (v := v) l h
      by_cases h1 : 1 ≤ k
      · by_cases h2 : k ≤ 12
        · have hi := HI.out
          rw [decide_eq_true h1, decide_eq_true h2, Bool.true_and, Bool.true_and] at hi
          have HI2 := Lib.hid hi
          clear hi HI
          generalize hasB words l = r at *
          have d1 : (1 : Int) ≤ (k : Int) := by omega
          have d2 : (k : Int) ≤ 12 := by omega
          go_wp2_with fail
          refine (cw _).mono ?_
          rintro e W1 ⟨v, rfl, hv, hb⟩
          have HB := Lib.hid hb
          have c2 := ch W1 v hv
          clear hb hv cw ch
          go_wp2_with fail
          refine c2.mono ?_
          rintro e W2 ⟨rfl, rfl⟩
          clear c2
          go_wp2_with fail
          go_ret
          exact ⟨by rw [HI2.out]; rfl, HB.out⟩
        · have HI2 := Lib.hid (show isName l = false by rw [HI.out, decide_eq_false h2]; simp)
          have d1 : (1 : Int) ≤ (k : Int) := by omega
          have d2 : decide ((k : Int) ≤ 12) = false := decide_eq_false (by omega)
          clear HI cw ch
          go_wp2
          go_ret
          exact ⟨by rw [HI2.out]; rfl, Below.refl _ _⟩
      · have HI2 := Lib.hid (show isName l = false by rw [HI.out, decide_eq_false h1]; simp)
        have d1 : decide ((1 : Int) ≤ (k : Int)) = false := decide_eq_false (by omega)
        clear HI cw ch
        go_wp2
        go_ret
        exact ⟨by rw [HI2.out]; rfl, Below.refl _ _⟩
end Go.Proofs.YtobpacebpiabcaaGreatDoor

namespace Go.Proofs.YtobpacebpiabcaaGreatDoor
open Go.RowKit Go.Lib

end Go.Proofs.YtobpacebpiabcaaGreatDoor
