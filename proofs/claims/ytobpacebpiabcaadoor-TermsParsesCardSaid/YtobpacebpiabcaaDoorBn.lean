/- The document's Valid, the law's bad: contracts (printed by expand.py). -/
import Derived.Test.YtobpacebpiabcaaDoorBm
namespace Go.Proofs.YtobpacebpiabcaaDoor
open Go.RowKit Go.Lib

theorem ok_eq (t : Tm) : t.ok = (t.fo.shp && decide (t.fo.cnt ≤ 64)) := rfl
set_option maxHeartbeats 3200000 in
theorem refvalid_any {S : Nat → Prop} {w : World} {v : Value} {t : Tm} (h : TmV S w v t) (hf : t.fo.fit) (hc : t.fo.cnt ≤ 1000000) : Calls Tryd.prog 22 #[v] w (RetW (.bool t.ok) w) := by
  have hc0 : t.2.2.2.cnt ≤ 1000000 := by have := fo_cnt t; omega
  have cn : ∀ W (_ : Below w.heap.size w W), Calls Tryd.prog 35 #[v, .int .i64 64] W (RetNodes t.fo.cnt 64 W) := fun W hb => refnodes_any _ t S v W 64 (Nat.lt_succ_self _) hc0 (h.below hb) (by omega) (by omega)
  have cs : ∀ W (_ : Below w.heap.size w W), Calls Tryd.prog 42 #[v] W (RetW (.bool t.fo.shp) W) := fun W hb => shaped_any _ t S v W (Nat.lt_succ_self _) (h.below hb) hf
  obtain ⟨u, rfl, hu⟩ := h
  obtain ⟨A, m, c, rfl, -⟩ := hu.open'
  have HO := Lib.hid (ok_eq t)
  obtain ⟨W3, hW3⟩ : ∃ W3, W3 = w.alloc (.cells #[.int .i64 t.1, .string ⟨t.2.1.toArray⟩, .int .i64 t.2.2.1, .slice A m c] 26) := ⟨_, rfl⟩
  have hB : Below w.heap.size w W3 := by rw [hW3]; exact (Below.refl _ _).alloc (Nat.le_refl _) _
  have hx : Boxed W3 w.heap.size t.1 t.2.1 t.2.2.1 A m c := by rw [hW3]; exact Boxed.new _ _ _ _ _ _ _ _
  have HB := Lib.hid hB
  have HX := Lib.hid hx
  have c1 := cn W3 hB
  clear hu hf hB hc hc0 cn hx
  obtain ⟨b, hb⟩ : ∃ b, t.ok = b := ⟨_, rfl⟩
  rw [hb] at HO ⊢
  clear hb
  generalize t.1 = kk at *
  generalize t.2.1 = knm at *
  generalize t.2.2.1 = kn at *
  generalize t.fo.shp = s at *
  generalize t.fo.cnt = cnt at *
  have k0 := HX.out.2.1
  have k1 := HX.out.2.2.1
  have k2 := HX.out.2.2.2.1
  have k3 := HX.out.2.2.2.2
  go_enter Tryd.func22, Tryd.ntmps22
  go_upto_region 1 with fail
  rw [← hW3]
  clear hW3
  go_wp2_with fail
  refine c1.mono ?_
  rintro e W5 ⟨r, rfl, hr1, hr2, hr3, hr4, hn⟩
  have hw5 := HB.out.trans (hn.mono HB.out.size)
  have hx5 := HX.out.below hn
  have HW5 := Lib.hid hw5
  have c2 := cs W5 hw5
  clear hn c1 cs hw5 k0 k1 k2 k3
  by_cases hr : r ≤ 64
  · have hct : cnt ≤ 64 := by
      rcases Nat.lt_or_ge 64 cnt with h | h
      · have := hr4 (by omega); omega
      · exact h
    have HR := Lib.hid (show b = s by rw [HO.out, decide_eq_true hct, Bool.and_true])
    clear hr1 hr2 hr3 hr4 hct
    have k0 := hx5.2.1
    have k1 := hx5.2.2.1
    have k2 := hx5.2.2.2.1
    have k3 := hx5.2.2.2.2
    clear hx5
    go_wp2_with fail
    refine c2.mono ?_
    rintro e W6 ⟨rfl, hn⟩
    have HW6 := Lib.hid (HW5.out.trans (hn.mono HW5.out.size))
    clear hn c2 k0 k1 k2 k3
    go_wp2_with fail
    go_ret
    exact ⟨by rw [HR.out]; rfl, HW6.out⟩
  · have dr : decide (r ≤ 64) = false := decide_eq_false hr
    have HR := Lib.hid (show b = false by rw [HO.out, decide_eq_false (by omega), Bool.and_false])
    clear hr1 hr2 hr3 hr4 hr hx5 c2
    go_wp2_with fail
    go_ret
    exact ⟨by rw [HR.out]; rfl, HW5.out⟩
end Go.Proofs.YtobpacebpiabcaaDoor
