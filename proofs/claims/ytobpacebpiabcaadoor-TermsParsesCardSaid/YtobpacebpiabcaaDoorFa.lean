/- ref's begins and number (printed by expand.py). -/
import Derived.Test.YtobpacebpiabcaaDoorPkAd
import Derived.Test.YtobpacebpiabcaaDoorPkBo
import Derived.Laws.IdiomStrings
namespace Go.Proofs.YtobpacebpiabcaaDoor
open Go.RowKit Go.Lib

theorem begB_take (s p : List UInt8) : begB s p = (decide (p.length ≤ s.length) && (s.take p.length == p)) := by
  unfold begB
  cases h : p.isPrefixOf s with
  | true =>
    obtain ⟨r, rfl⟩ := List.isPrefixOf_iff_prefix.1 h
    simp
  | false =>
    symm
    rw [Bool.and_eq_false_iff]
    by_cases hl : p.length ≤ s.length
    · right
      rw [beq_eq_false_iff_ne]
      intro e
      have : p.isPrefixOf s = true := List.isPrefixOf_iff_prefix.2 ⟨s.drop p.length, by have := List.take_append_drop p.length s; rw [e] at this; exact this⟩
      rw [h] at this
      cases this
    · left
      exact decide_eq_false hl
set_option maxHeartbeats 1600000 in
theorem begins_any (s p : List UInt8) (w : World) : Calls Tryd.prog 70 #[.string ⟨s.toArray⟩, .string ⟨p.toArray⟩] w (RetV (.bool (begB s p)) w) := by
  have hB := begB_take s p
  obtain ⟨n, hn⟩ : ∃ n, s.length = n := ⟨_, rfl⟩
  obtain ⟨k, hk⟩ : ∃ k, p.length = k := ⟨_, rfl⟩
  have hz1 : (⟨s.toArray⟩ : ByteArray).size = n := by show s.toArray.size = _; simpa using hn
  have hz2 : (⟨p.toArray⟩ : ByteArray).size = k := by show p.toArray.size = _; simpa using hk
  have e1 : (⟨s.toArray⟩ : ByteArray).extract 0 k = ⟨(s.take k).toArray⟩ := ext_take s k
  rw [hn, hk] at hB
  by_cases h : k ≤ n
  · have d1 : (k : Int) ≤ (n : Int) := by omega
    rw [decide_eq_true h, Bool.true_and] at hB
    generalize s.take k = y at *
    have HB := Lib.hid hB
    clear hB hn hk
    go_enter Tryd.func70, Tryd.ntmps70
    go_wp2
    go_ret
    rw [HB.out]
    exact ⟨rfl, rfl⟩
  · have d1 : decide ((k : Int) ≤ (n : Int)) = false := decide_eq_false (by omega)
    rw [decide_eq_false h, Bool.false_and] at hB
    have HB := Lib.hid hB
    clear hB hn hk
    go_enter Tryd.func70, Tryd.ntmps70
    go_wp2
    go_ret
    rw [HB.out]
    exact ⟨rfl, rfl⟩
/-- A decimal digit. -/
def dgt (u : Nat) : UInt8 := UInt8.ofNat (48 + u % 10)
theorem dec_step {u : Nat} (h : 10 ≤ u) : decDigits u = decDigits (u / 10) ++ [dgt u] := by rw [decDigits, dif_neg (by omega)]; rfl
theorem dec_one {u : Nat} (h : u < 10) : decDigits u = [dgt u] := by rw [decDigits, dif_pos h]; unfold dgt; rw [Nat.mod_eq_of_lt h]
theorem dec_len19 {u : Nat} (h : u ≤ 9223372036854775807) : (decDigits u).length ≤ 19 := dec_len 18 u (by omega)
theorem conv1 (W : World) (u : Nat) : (convert 132 9 (.slice (some ⟨W.heap.size, 0, none⟩) 1 1)).run Tryd.prog (W.alloc (.cells #[.int .u8 (48 + (u : Int) % 10)] 5)) = .ok (.string ⟨[dgt u].toArray⟩) (W.alloc (.cells #[.int .u8 (48 + (u : Int) % 10)] 5)) := by
  refine run_convert_bytes_back _ _ _ 5 ⟨W.heap.size, 0, none⟩ 1 [dgt u] (by kernel_rfl) (by kernel_rfl) (by kernel_rfl) (fun j hj => ?_)
  match j, hj with
  | 0, _ =>
    have h1 := heap_alloc_new W (.cells #[.int .u8 (48 + (u : Int) % 10)] 5)
    have h2 : ((UInt8.ofNat (48 + u % 10)).toNat : Int) = 48 + (u : Int) % 10 := by
      rw [show (UInt8.ofNat (48 + u % 10)).toNat = (48 + u % 10) % 256 from rfl]
      omega
    rw [show (Addr.mk W.heap.size 0 none).add 0 = ⟨W.heap.size, 0, none⟩ from rfl]
    simp only [World.cell?, h1, List.getElem_cons_zero]
    unfold dgt
    rw [h2]
    rfl
set_option maxRecDepth 100000 in
set_option maxHeartbeats 1600000 in
theorem number_any (u0 : Nat) (w : World) (h : u0 ≤ 9223372036854775807) : Calls Tryd.prog 71 #[.int .i64 (u0 : Int)] w (RetW (.string ⟨(decDigits u0).toArray⟩) w) := by
  have hc := fun W b => conv1 W b
  go_enter Tryd.func71, Tryd.ntmps71
  go_wp2_with fail
  go_loopw [0, 3] (fun v s wr => ∃ (u : Nat) (l : List UInt8), v = .int .i64 (u : Int) ∧ s = .string ⟨(dgt u :: l).toArray⟩ ∧ decDigits u ++ l = decDigits u0 ∧ u ≤ u0 ∧ Below w.heap.size w wr) (fun v _ _ => (intOf v).toNat)
  case atStart => exact ⟨u0, [], rfl, rfl, by simp, by omega, (Below.refl _ _).alloc (Nat.le_refl _) _⟩
  case round =>
    obtain ⟨u, l, rfl, rfl, hd, hu, hB⟩ := hrel
    have HB := Lib.hid hB
    have HD := Lib.hid hd
    clear hB hd
    by_cases h10 : 10 ≤ u
    · have d1 : (10 : Int) ≤ (u : Int) := by omega
      have hc2 := fun W => conv1 W (u / 10)
      simp only [Int.natCast_ediv, Int.cast_ofNat_Int] at hc2
      have hl : ¬ 9223372036854775807 < 1 + (l.length + 1) := by
        have h1 := congrArg List.length HD.out
        have h2 := dec_len19 h
        rw [List.length_append] at h1
        omega
      go_wp2_with fail
      go_roundw
      case rel => exact ⟨u / 10, dgt u :: l, by simp, congrArg _ (ByteArray.mk_append_mk [dgt (u / 10)] (dgt u :: l)), by rw [← HD.out, dec_step h10]; simp, by omega, HB.out.alloc HB.out.size _⟩
      case measure => simp [intOf]; omega
    · have d1 : ¬ (10 : Int) ≤ (u : Int) := by omega
      go_wp2
      go_ret
      have e2 := HD.out
      rw [dec_one (by omega)] at e2
      exact ⟨by rw [← e2]; rfl, HB.out⟩
end Go.Proofs.YtobpacebpiabcaaDoor
