/- ref's digits, and the texts of fractions. -/
import Derived.Test.YtklngjjokbhfpaaGreatDoorYa
import Derived.Laws.IdiomStrings
namespace Go.Proofs.YtklngjjokbhfpaaGreatDoor
open Go.RowKit Go.Lib

/-- A decimal digit. -/
def dgt (u : Nat) : UInt8 := UInt8.ofNat (48 + u % 10)
theorem dec_step {u : Nat} (h : 10 ≤ u) : decDigits u = decDigits (u / 10) ++ [dgt u] := by rw [decDigits, dif_neg (by omega)]; rfl
theorem dec_one {u : Nat} (h : u < 10) : decDigits u = [dgt u] := by rw [decDigits, dif_pos h]; unfold dgt; rw [Nat.mod_eq_of_lt h]
theorem dec_len19 {u : Nat} (h : u ≤ 9223372036854775807) : (decDigits u).length ≤ 19 := dec_len 18 u (by omega)
theorem conv1 (W : World) (u : Nat) : (convert 86 9 (.slice (some ⟨W.heap.size, 0, none⟩) 1 1)).run Tryz.prog (W.alloc (.cells #[.int .u8 (48 + (u : Int) % 10)] 5)) = .ok (.string ⟨[dgt u].toArray⟩) (W.alloc (.cells #[.int .u8 (48 + (u : Int) % 10)] 5)) := by
  refine run_convert_bytes_back _ _ _ 5 ⟨W.heap.size, 0, none⟩ 1 [dgt u] (by kernel_rfl) (by kernel_rfl) (by kernel_rfl) (fun j hj => ?_)
  match j, hj with
  | 0, _ =>
    have h1 := heap_alloc_new W (.cells #[.int .u8 (48 + (u : Int) % 10)] 5)
    have h2 := (dig_of (u % 10) (Nat.mod_lt _ (by decide))).2
    rw [show (Addr.mk W.heap.size 0 none).add 0 = ⟨W.heap.size, 0, none⟩ from rfl]
    simp only [World.cell?, h1, List.getElem_cons_zero]
    unfold dgt
    rw [h2]
    rw [show (((48 + u % 10 : Nat) : Int)) = 48 + (u : Int) % 10 by omega]
    rfl
set_option maxRecDepth 100000 in
set_option maxHeartbeats 1600000 in
theorem rdigits_any (u0 : Nat) (w : World) (h : u0 ≤ 9223372036854775807) : Calls Tryz.prog 26 #[.int .i64 (u0 : Int)] w (RetV (.string ⟨(decDigits u0).toArray⟩) w) := by
  have hc := fun W b => conv1 W b
  go_enter Tryz.func26, Tryz.ntmps26
  go_wp2_with fail

  go_loopw [0, 3] (fun v s wr => ∃ (u : Nat) (l : List UInt8), v = .int .i64 (u : Int) ∧ s = .string ⟨(dgt u :: l).toArray⟩ ∧ decDigits u ++ l = decDigits u0 ∧ u ≤ u0 ∧ Below w.heap.size w wr) (fun v _ _ => (intOf v).toNat)
  case atStart => exact ⟨u0, [], rfl, rfl, by simp, by omega, (Below.refl _ _).alloc (Nat.le_refl _) _⟩
  case round =>
    obtain ⟨u, l, rfl, rfl, hd, hu, hB⟩ := hrel
    have HB := Lib.hid hB
    have HD := Lib.hid hd
    clear hB hd
    by_cases h10 : 10 ≤ u
    · have d1 : (10 : Int) ≤ (u : Int) := by omega
      have hc2 := fun W => conv1 W (u / 10)
      simp only [Int.natCast_ediv, Int.cast_ofNat_Int] at hc2
      have hl : ¬ 9223372036854775807 < 1 + (l.length + 1) := by
        have h1 := congrArg List.length HD.out
        have h2 := dec_len19 h
        rw [List.length_append] at h1
        omega
      go_wp2_with fail
      go_roundw
      case rel => exact ⟨u / 10, dgt u :: l, by simp, congrArg _ (ByteArray.mk_append_mk [dgt (u / 10)] (dgt u :: l)), by rw [← HD.out, dec_step h10]; simp, by omega, HB.out.alloc HB.out.size _⟩
      case measure => simp [intOf]; omega
    · have d1 : ¬ (10 : Int) ≤ (u : Int) := by omega
      go_wp2
      go_ret
      have e2 := HD.out
      rw [dec_one (by omega)] at e2
      exact ⟨by rw [← e2]; rfl, HB.out⟩
end Go.Proofs.YtklngjjokbhfpaaGreatDoor
