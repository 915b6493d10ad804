/- The program's reader whole; Parse: contracts (printed by expand.py). -/
import Derived.Test.YtobpacebpiabcaaGreatDoorCd
namespace Go.Proofs.YtobpacebpiabcaaGreatDoor
open Go.RowKit Go.Lib
theorem term_step (M : Nat) (IH : TermOk M) : TermOk (M + 1) := by
  intro m R N B0 ws w hm hm1 h hN hL hB0 hle
  cases m with
  | zero =>
    refine ⟨fun x hx => ?_, fun _ => term_zero R N ws w h hN⟩
    rw [rdv_zero] at hx; cases hx
  | succ m =>
    have IH' : TermOk (m + 1) := fun m' R N B0 ws w h0 => IH m' R N B0 ws w (by omega)
    have hm2 : m ≤ 1000 := by omega
    have done : ∀ {x}, rdv (m + 1) ws = some x → Calls Tryz.prog 48 #[.pointer (some ⟨R, 0, none⟩)] w (RetSome N x R w) → (∀ x, rdv (m + 1) ws = some x → Calls Tryz.prog 48 #[.pointer (some ⟨R, 0, none⟩)] w (RetSome N x R w)) ∧ (rdv (m + 1) ws = none → Calls Tryz.prog 48 #[.pointer (some ⟨R, 0, none⟩)] w (RetNone N R w)) := fun {x} e c => ⟨fun x' h' => by
      rw [e] at h'
      injection h' with h'
      rw [← h']; exact c, fun h' => by rw [e] at h'; cases h'⟩
    have fail : rdv (m + 1) ws = none → Calls Tryz.prog 48 #[.pointer (some ⟨R, 0, none⟩)] w (RetNone N R w) → (∀ x, rdv (m + 1) ws = some x → Calls Tryz.prog 48 #[.pointer (some ⟨R, 0, none⟩)] w (RetSome N x R w)) ∧ (rdv (m + 1) ws = none → Calls Tryz.prog 48 #[.pointer (some ⟨R, 0, none⟩)] w (RetNone N R w)) := fun e c => ⟨(fun x' h' => by rw [e] at h'; cases h'), fun _ => c⟩
    by_cases e1 : hd ws = wTrue
    · exact done (rdv_true e1) (term_true m R N ws w h hN hm2 e1)
    by_cases e2 : hd ws = [40]
    · cases h1 : rdv m ws.tail with
      | none => exact fail (rdv_br0 e2 h1) (term_br0 m R N B0 IH' ws w h hN hm2 hL hB0 hle e2 h1)
      | some y =>
        by_cases e3 : two1 (hd y.2.1) = 0
        · exact fail (rdv_br1 e2 h1 e3) (term_br1 m R N B0 IH' ws w h hN hm2 hL hB0 hle e2 y h1 e3)
        cases h2 : rdv y.2.2 y.2.1.tail with
        | none => exact fail (rdv_br2 e2 h1 e3 h2) (term_br2 m R N B0 IH' ws w h hN hm2 hL hB0 hle e2 y h1 e3 h2)
        | some z =>
          by_cases e4 : hd z.2.1 = [41]
          · exact done (rdv_br e2 h1 e3 h2 e4) (term_br m R N B0 IH' ws w h hN hm2 hL hB0 hle e2 y h1 e3 z h2 e4)
          · exact fail (rdv_br3 e2 h1 e3 h2 e4) (term_br3 m R N B0 IH' ws w h hN hm2 hL hB0 hle e2 y h1 e3 z h2 e4)
    by_cases e3 : one1 (hd ws) = 0
    · exact done (rdv_mark e1 e2 e3) (term_mark m R N ws w h hN hm2 e1 e2 e3)
    by_cases e4 : hd ws = wWithin
    · cases h1 : rdv m ws.tail.tail with
      | none => exact fail (rdv_within0 e4 h1) (term_within_none m R N B0 IH' ws w h hN hm2 hL hB0 hle e4 h1)
      | some y => exact done (rdv_within e4 h1) (term_within_some m R N B0 IH' ws w h hN hm2 hL hB0 hle e4 y h1)
    · cases h1 : rdv m ws.tail with
      | none => exact fail (rdv_one0 e3 e4 h1) (term_one_none m R N B0 IH' ws w h hN hm2 hL hB0 hle e3 e4 h1)
      | some y => exact done (rdv_one e3 e4 h1) (term_one_some m R N B0 IH' ws w h hN hm2 hL hB0 hle e3 e4 y h1)
theorem term_any : ∀ (M : Nat), TermOk M
  | 0 => fun _ _ _ _ _ _ h => absurd h (by omega)
  | M + 1 => term_step M (term_any M)
def RetParse (l : List UInt8) (w : World) (e : Ending) (w' : World) : Prop :=
  (∃ t v, parseT l = some t ∧ l.length ≤ 2000 ∧ e = .returned (.tuple #[v, .int .i64 0]) ∧ TmV (fun b => w.heap.size ≤ b) w' v t ∧ Below w.heap.size w w') ∨
  ((parseT l = none ∨ 2000 < l.length) ∧ e = .returned (.tuple #[.agg #[.int .i64 0, .string ⟨#[]⟩, .int .i64 0, .slice none 0 0], .int .i64 (if 2000 < l.length then 3 else 2)]) ∧ Below w.heap.size w w')
theorem below_set4' {B : Nat} {w W : World} (h : Below w.heap.size w W) (hB : w.heap.size ≤ B) (a b c d : Value) : Below w.heap.size w (set4 W B a b c d) := h.trans (below_set4 hB a b c d)
set_option maxHeartbeats 6400000 in
theorem parse_long (l : List UInt8) (w : World) (h : 2000 < l.length) (hs : l.length ≤ 1000000) : Calls Tryz.prog 11 #[.string ⟨l.toArray⟩] w (RetParse l w) := by
  have HP := Lib.hid (show ∀ e w', e = .returned (.tuple #[.agg #[.int .i64 0, .string ⟨#[]⟩, .int .i64 0, .slice none 0 0], .int .i64 3]) → Below w.heap.size w w' → RetParse l w e w' from fun e w' he hb => .inr ⟨.inr h, by rw [if_pos h]; exact he, hb⟩)
  obtain ⟨n, hn⟩ : ∃ n, l.length = n := ⟨_, rfl⟩
  have hsz : (⟨l.toArray⟩ : ByteArray).size = n := by show l.toArray.size = _; simpa using hn
  rw [hn] at h hs
  have d1 : (2000 : Int) < (n : Int) := by omega
  generalize hPost : RetParse l w = Post at *
  clear hPost hn
  obtain ⟨W1, hW1⟩ : ∃ W1, W1 = w.alloc (.cells #[.int .i64 0, .string ⟨#[]⟩, .int .i64 0, .slice none 0 0] 26) := ⟨_, rfl⟩
  have HW := Lib.hid (show Below w.heap.size w W1 by rw [hW1]; exact (Below.refl _ _).alloc (Nat.le_refl _) _)
  have HZ := Lib.hid (show Blk W1 w.heap.size #[.int .i64 0, .string ⟨#[]⟩, .int .i64 0, .slice none 0 0] 26 by rw [hW1]; exact Blk.new _ _ _)
  go_enter Tryz.func11, Tryz.ntmps11
  go_upto_region 1 with fail
  rw [← hW1]
  clear hW1
  have z0 := HZ.out.cell 0
  have z1 := HZ.out.cell 1
  have z2 := HZ.out.cell 2
  have z3 := HZ.out.cell 3
  have g0 := HZ.out.free 0
  have g1 := HZ.out.free 1
  have g2 := HZ.out.free 2
  have g3 := HZ.out.free 3
  have HE := Lib.hid (HZ.out.set4 (.int .i64 0) (.string ⟨#[]⟩) (.int .i64 0) (.slice none 0 0))
  have HEB := Lib.hid (below_set4' HW.out (Nat.le_refl _) (.int .i64 0) (.string ⟨#[]⟩) (.int .i64 0) (.slice none 0 0))
  go_wp2
  have r0 := HE.out.cell 0
  have r1 := HE.out.cell 1
  have r2 := HE.out.cell 2
  have r3 := HE.out.cell 3
  refine bodyPost_ret (v := .tuple #[.agg #[.int .i64 0, .string ⟨#[]⟩, .int .i64 0, .slice none 0 0], .int .i64 3]) ?_ rfl (HP.out _ _ rfl HEB.out)
  simp [set4] at r0 r1 r2 r3
  simp [results, Tryz.results11, go_sem, r0, r1, r2, r3]
end Go.Proofs.YtobpacebpiabcaaGreatDoor
