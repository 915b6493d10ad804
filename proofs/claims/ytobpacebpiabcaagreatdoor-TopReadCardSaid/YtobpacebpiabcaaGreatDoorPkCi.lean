/- Texts Ci Cj in one. -/
import Derived.Test.YtobpacebpiabcaaGreatDoorPkChd
import Derived.Test.YtobpacebpiabcaaGreatDoorBk
import Derived.Test.YtobpacebpiabcaaGreatDoorPkCg
import Derived.Test.YtobpacebpiabcaaGreatDoorPkLex
namespace Go.Proofs.YtobpacebpiabcaaGreatDoor
open Go.RowKit Go.Lib

theorem evAt_of {log : List Ev} {n k : Nat} (h : logTo log n = true) (hk : k < n) : evAt log k = true := by
  unfold logTo at h
  rw [List.all_eq_true] at h
  exact h k (by simpa using hk)
theorem daysOk_of {log : List Ev} (h : logB log = true) : DaysOk log := fun i => by
  rw [logB_eq, Bool.and_eq_true] at h
  by_cases hi : i < log.length
  · have h1 := evAt_of h.2 hi
    have h0 : 0 ≤ lastDay log i := lastDay_pos (by
      unfold logTo
      rw [List.all_eq_true]
      intro q hq
      exact evAt_of h.2 (by have := List.mem_range.1 hq; omega))
    simp only [evAt, Bool.and_eq_true, decide_eq_true_eq] at h1
    omega
  · unfold dayAt
    rw [List.getD_eq_getElem?_getD, List.getElem?_eq_none (by omega)]
    simp
theorem logB_len {log : List Ev} (h : logB log = true) : log.length ≤ 256 := by
  rw [logB_eq, Bool.and_eq_true, decide_eq_true_eq] at h
  exact h.1
/-- What Watch returns. -/
def RetWatch (t : Tm) (log : List Ev) (w : World) (e : Ending) (w' : World) : Prop :=
  (t.ok = true ∧ logB log = true ∧ ∃ v, e = .returned (.tuple #[v, .int .i64 0]) ∧ BoolO w' w.heap.size v (t.watch log) ∧ Below w.heap.size w w') ∨
  ((t.ok && logB log) = false ∧ e = .returned (.tuple #[.slice none 0 0, .int .i64 1]) ∧ Below w.heap.size w w')
set_option maxHeartbeats 6400000 in
theorem watch_any {S : Nat → Prop} {w : World} {v u : Value} {t : Tm} {log : List Ev} (h : TmV S w v t) (hf : t.fo.fit) (hl : EvV w u log) (hlf : EvFit log) : Calls Tryz.prog 16 #[v, u] w (RetWatch t log w) := by
  obtain ⟨ku, rfl, hku⟩ := h
  obtain ⟨A, m, c, rfl, -⟩ := hku.open'
  obtain ⟨W3, hW3⟩ : ∃ W3, W3 = w.alloc (.cells #[.int .i64 t.1, .string ⟨t.2.1.toArray⟩, .int .i64 t.2.2.1, .slice A m c] 26) := ⟨_, rfl⟩
  have hB : Below w.heap.size w W3 := by rw [hW3]; exact (Below.refl _ _).alloc (Nat.le_refl _) _
  have HB := Lib.hid hB
  have HX := Lib.hid (show Blk W3 w.heap.size #[.int .i64 t.1, .string ⟨t.2.1.toArray⟩, .int .i64 t.2.2.1, .slice A m c] 26 by rw [hW3]; exact Blk.new _ _ _)
  have cv := valid_one (_w := w) (hku.below hB) hf 26
  have cl : ∀ W (_ : Below w.heap.size w W), Calls Tryz.prog 55 #[u] W (RetW (.int .i64 (logN log)) W) := fun W hb => checklog_any (hl.below hb) hlf
  have ch : t.ok = true → logB log = true → ∀ W (_ : Below w.heap.size w W), Calls Tryz.prog 56 #[.agg #[.int .i64 t.1, .string ⟨t.2.1.toArray⟩, .int .i64 t.2.2.1, .slice A m c], u] W (RetBoolO (t.watch log) W) := fun ho hlb W hb =>
    holds_any _ t S _ _ log W (Nat.lt_succ_self _) ⟨_, rfl, hku.below hb⟩ (by have h := Tm.ok_shp ho; rw [fo_shp, h.1, h.2.1]; rfl) (hl.below hb) (daysOk_of hlb) (by have := logB_len hlb; omega)
  have HP1 := Lib.hid (show t.ok = true → logB log = true → ∀ e w', (∃ v, e = .returned (.tuple #[v, .int .i64 0]) ∧ BoolO w' w.heap.size v (t.watch log) ∧ Below w.heap.size w w') → RetWatch t log w e w' from fun h1 h2 e w' h => .inl ⟨h1, h2, h⟩)
  have HP2 := Lib.hid (show (t.ok && logB log) = false → ∀ e w', e = .returned (.tuple #[.slice none 0 0, .int .i64 1]) → Below w.heap.size w w' → RetWatch t log w e w' from fun h1 e w' h2 h3 => .inr ⟨h1, h2, h3⟩)
  have HCH := Lib.hid ch
  have HCL := Lib.hid cl
  obtain ⟨AL, nl, cl', rfl⟩ : ∃ AL nl cl', u = .slice AL nl cl' := by obtain ⟨A, c, h, _⟩ := hl; exact ⟨A, _, c, h⟩
  generalize hP : RetWatch t log w = Post at *
  clear hP ch cl hku hl hlf hf hB
  obtain ⟨b, hb⟩ : ∃ b, t.ok = b := ⟨_, rfl⟩
  have HOK := Lib.hid hb
  rw [hb] at cv
  clear hb
  generalize t.1 = kk at *
  generalize t.2.1 = knm at *
  generalize t.2.2.1 = kn at *
  have k0 := HX.out.cell 0
  have k1 := HX.out.cell 1
  have k2 := HX.out.cell 2
  have k3 := HX.out.cell 3
  have HW4 := Lib.hid (show Below w.heap.size w (W3.alloc (.cells #[.int .i64 kk, .string ⟨knm.toArray⟩, .int .i64 kn, .slice A m c] 26)) from HB.out.alloc HB.out.size _)
  have HR4 := Lib.hid (show Below W3.heap.size W3 (W3.alloc (.cells #[.int .i64 kk, .string ⟨knm.toArray⟩, .int .i64 kn, .slice A m c] 26)) from (Below.refl _ _).alloc (Nat.le_refl _) _)
  go_enter Tryz.func16, Tryz.ntmps16
  go_upto_region 1 with fail
  rw [← hW3]
  clear hW3
  go_wp2_with fail
  refine cv.mono ?_
  rintro e W5 ⟨rfl, hn5⟩
  have HW5 := Lib.hid (HW4.out.trans (hn5.mono HW4.out.size))
  have HX5 := Lib.hid (HX.out.below (HR4.out.trans (hn5.mono HR4.out.size)))
  clear cv hn5 k0 k1 k2 k3
  cases b
  · go_wp2
    exact HP2.out (by rw [HOK.out]; rfl) _ _ rfl HW5.out
  · have cc := HCL.out W5 HW5.out
    cases hlb : logB log with
    | false =>
      rw [logN_no hlb] at cc
      have HLB := Lib.hid hlb
      clear hlb
      go_wp2_with fail
      refine cc.mono ?_
      rintro e W6 ⟨rfl, hn6⟩
      have HW6 := Lib.hid (HW5.out.trans (hn6.mono HW5.out.size))
      clear cc hn6
      go_wp2
      exact HP2.out (by rw [HOK.out, HLB.out]; rfl) _ _ rfl HW6.out
    | true =>
      rw [logN_yes hlb] at cc
      have HLB := Lib.hid hlb
      clear hlb
      go_wp2_with fail
      refine cc.mono ?_
      rintro e W6 ⟨rfl, hn6⟩
      have HW6 := Lib.hid (HW5.out.trans (hn6.mono HW5.out.size))
      have hx6 := HX5.out.below hn6
      have k0 := hx6.cell 0
      have k1 := hx6.cell 1
      have k2 := hx6.cell 2
      have k3 := hx6.cell 3
      have ch := HCH.out HOK.out HLB.out W6 HW6.out
      clear cc hn6 hx6
      go_wp2_with fail
      refine ch.mono ?_
      rintro e W7 ⟨v7, rfl, ho7, hn7⟩
      have HF := Lib.hid (HP1.out HOK.out HLB.out _ W7 ⟨v7, rfl, ho7.mono HW6.out.size, HW6.out.trans (hn7.mono HW6.out.size)⟩)
      clear ch ho7 hn7 k0 k1 k2 k3
      go_wp2
      exact HF.out
end Go.Proofs.YtobpacebpiabcaaGreatDoor

namespace Go.Proofs.YtobpacebpiabcaaGreatDoor
open Go.RowKit Go.Lib
end Go.Proofs.YtobpacebpiabcaaGreatDoor
