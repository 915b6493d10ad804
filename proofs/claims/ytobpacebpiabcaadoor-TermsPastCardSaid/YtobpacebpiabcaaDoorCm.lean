/- TermsNobody: what the law computes (printed by expand.py). -/
import Derived.Test.YtobpacebpiabcaaDoorCk
import Derived.Test.YtobpacebpiabcaaDoorPkBa
namespace Go.Proofs.YtobpacebpiabcaaDoor
open Go.RowKit Go.Lib

/-- A monitor that New did not make. -/
def NoMon (w : World) (m : Value) : Prop := (∃ p, m = .pointer p) ∧ ∀ w', Below w.heap.size w w' → Calls Tryd.prog 52 #[m] w' (RetV (.bool false) w')
theorem NoMon.below {w w' : World} {m : Value} (h : NoMon w m) (hb : Below w.heap.size w w') : NoMon w' m := ⟨h.1, fun W hW => h.2 W (hb.trans (hW.mono hb.size))⟩
theorem noMon_nil (w : World) : NoMon w (.pointer none) := ⟨⟨_, rfl⟩, fun w' _ => made_nil w'⟩
theorem noMon_zero {w : World} {b : Nat} {v : Value} {t : TypeId} (h : Blk w b #[.nilIface, v] t) : NoMon w (.pointer (some ⟨b, 0, none⟩)) := ⟨⟨_, rfl⟩, fun w' hb => made_zero b 0 w' (by rw [(h.below hb).cell]; rfl)⟩
theorem kept_no {m : Value} {w : World} (h : NoMon w m) : Calls Tryd.prog 32 #[m] w (RetV (.int .i64 0) w) := by
  have cm := h.2 w (Below.refl _ _)
  clear h
  go_enter Tryd.func32, Tryd.ntmps32
  go_wp2_with (go_at_call 52; refine cm.mono ?_; rintro e w' ⟨rfl, rfl⟩)
  go_ret
  exact ⟨rfl, rfl⟩
theorem clone_no {m : Value} {w : World} (h : NoMon w m) : Calls Tryd.prog 33 #[m] w (RetV (.pointer none) w) := by
  have cm := h.2 w (Below.refl _ _)
  clear h
  go_enter Tryd.func33, Tryd.ntmps33
  go_wp2_with (go_at_call 52; refine cm.mono ?_; rintro e w' ⟨rfl, rfl⟩)
  go_ret
  exact ⟨rfl, rfl⟩
theorem step_no {m d u : Value} {w : World} (h : NoMon w m) : Calls Tryd.prog 31 #[m, .agg #[d, u]] w (RetW (.tuple #[.bool false, .int .i64 7]) w) := by
  have HM := Lib.hid h
  clear h
  go_enter Tryd.func31, Tryd.ntmps31
  go_wp2_with (go_at_call 52; refine (HM.out.2 _ ((Below.refl _ _).alloc (Nat.le_refl _) _)).mono ?_; rintro e w' ⟨rfl, rfl⟩)
  go_ret2
  exact ⟨rfl, (Below.refl _ _).alloc (Nat.le_refl _) _⟩
set_option maxHeartbeats 6400000 in
theorem nobody_any {B0 : Nat} {d : Int} {u : Value} {w : World} (hu : ∃ A m c, u = .slice A m c) (hL : LibOk B0 w) : Calls Tryd.prog 8 #[.agg #[.int .i64 d, u]] w (RetW (.bool true) w) := by
  have HL := Lib.hid (show ∀ W, Below w.heap.size w W → Calls Tryd.prog 13 #[] W (RetW (.bool true) W) from fun W hb => lives_any B0 W (hL.below hb))
  obtain ⟨A, m, c, rfl⟩ := hu
  clear hL
  obtain ⟨W1, hW1⟩ : ∃ W1, W1 = w.alloc (.cells #[.int .i64 d, .slice A m c] 38) := ⟨_, rfl⟩
  obtain ⟨W2, hW2⟩ : ∃ W2, W2 = W1.alloc (.cells #[.nilIface, .int .i64 0] 64) := ⟨_, rfl⟩
  obtain ⟨W3, hW3⟩ : ∃ W3, W3 = W2.alloc (.cells #[.pointer none, .pointer (some ⟨w.heap.size + 1, 0, none⟩)] 60) := ⟨_, rfl⟩
  have s1 : W1.heap.size = w.heap.size + 1 := by rw [hW1]; exact size_al _ _
  have s2 : W2.heap.size = w.heap.size + 1 + 1 := by rw [hW2, size_al, s1]
  have b1 : Below w.heap.size w W1 := by rw [hW1]; exact (Below.refl _ _).alloc (Nat.le_refl _) _
  have b2 : Below W1.heap.size W1 W2 := by rw [hW2]; exact (Below.refl _ _).alloc (Nat.le_refl _) _
  have b3 : Below W2.heap.size W2 W3 := by rw [hW3]; exact (Below.refl _ _).alloc (Nat.le_refl _) _
  have x1 : Blk W1 w.heap.size #[.int .i64 d, .slice A m c] 38 := by rw [hW1]; exact Blk.new _ _ _
  have x2 : Blk W2 (w.heap.size + 1) #[.nilIface, .int .i64 0] 64 := by rw [← s1, hW2]; exact Blk.new _ _ _
  have x3 : Blk W3 (w.heap.size + 1 + 1) #[.pointer none, .pointer (some ⟨w.heap.size + 1, 0, none⟩)] 60 := by rw [← s2, hW3]; exact Blk.new _ _ _
  have HX1 := Lib.hid ((x1.below b2).below b3)
  have HX3 := Lib.hid x3
  have HB3 := Lib.hid ((b1.trans (b2.mono b1.size)).trans (b3.mono (Nat.le_trans b1.size b2.size)))
  have HM0 := Lib.hid (noMon_nil W3)
  have HM1 := Lib.hid (noMon_zero (x2.below b3))
  clear x1 x2 x3 s1 s2 b1 b2 b3
  go_enter Tryd.func8, Tryd.ntmps8
  go_wp2
  rw [← hW1, ← hW2, ← hW3]
  clear hW1 hW2 hW3
  go_loopw [13] (fun i wr => ∃ k : Nat, k ≤ 2 ∧ i = .int .i64 k ∧ Below W3.heap.size W3 wr) (fun i _ => 2 - (intOf i).toNat)
  case atStart => exact ⟨0, Nat.zero_le _, rfl, Below.refl _ _⟩
  case round =>
    obtain ⟨k, hk, rfl, hbw⟩ := hrel
    have HB := Lib.hid hbw
    clear hbw
    by_cases hlt : k < 2
    · obtain ⟨mv, hc3, hmv⟩ : ∃ mv, wr.cell? ⟨w.heap.size + 1 + 1, k, none⟩ = some mv ∧ NoMon wr mv := by
        have hx := HX3.out.below HB.out
        have : k = 0 ∨ k = 1 := by omega
        rcases this with rfl | rfl
        · exact ⟨_, hx.cell 0, HM0.out.below HB.out⟩
        · exact ⟨_, hx.cell 1, HM1.out.below HB.out⟩
      have cs := step_no (d := .int .i64 d) (u := .slice A m c) hmv
      have HMV := Lib.hid hmv
      obtain ⟨p, rfl⟩ := hmv.1
      have hx1 := HX1.out.below HB.out
      have y0 := hx1.cell 0
      have y1 := hx1.cell 1
      clear hmv hx1 HM0 HM1 HX1 HX3 HL
      go_wp2_with fail
      refine cs.mono ?_
      rintro e W5 ⟨rfl, hb5⟩
      have HB5 := Lib.hid (HB.out.trans (hb5.mono HB.out.size))
      have hm5 := HMV.out.below hb5
      have ck := kept_no hm5
      have cl := clone_no hm5
      clear cs hb5 hm5 hc3 y0 y1
      go_wp2_with fail
      refine ck.mono ?_
      rintro e W6 ⟨rfl, rfl⟩
      clear ck
      go_wp2_with fail
      refine cl.mono ?_
      rintro e W7 ⟨rfl, rfl⟩
      clear cl
      go_wp2
      go_roundw
      case rel => exact ⟨k + 1, by omega, by go_num, HB5.out⟩
      case measure => simp [intOf]; omega
    · obtain rfl : k = 2 := by omega
      have hbw := HB3.out.trans (HB.out.mono HB3.out.size)
      have cl := HL.out wr hbw
      have HBW := Lib.hid hbw
      clear hbw HX1 HX3 HM0 HM1
      go_wp2_with fail
      refine cl.mono ?_
      rintro e W5 ⟨rfl, hb5⟩
      have HB5 := Lib.hid (HBW.out.trans (hb5.mono HBW.out.size))
      clear cl hb5
      go_wp2
      go_ret
      exact ⟨rfl, HB5.out⟩
end Go.Proofs.YtobpacebpiabcaaDoor
