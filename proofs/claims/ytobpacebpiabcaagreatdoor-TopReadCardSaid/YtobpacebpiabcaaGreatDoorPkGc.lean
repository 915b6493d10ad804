/- Texts Gc Gg Gh Gk in one. -/
import Derived.Test.YtobpacebpiabcaaGreatDoorGb
import Derived.Test.YtobpacebpiabcaaGreatDoorBk
import Derived.Test.YtobpacebpiabcaaGreatDoorPkDg
import Derived.Test.YtobpacebpiabcaaGreatDoorPkAd
import Derived.Test.YtobpacebpiabcaaGreatDoorPkCi
import Derived.Test.YtobpacebpiabcaaGreatDoorPkGd
import Derived.Test.YtobpacebpiabcaaGreatDoorPkDm
import Derived.Test.YtobpacebpiabcaaGreatDoorPkCk
import Derived.Test.YtobpacebpiabcaaGreatDoorPkBl
import Derived.Test.YtobpacebpiabcaaGreatDoorDk
import Derived.Lib.SlicesCompact
import Derived.Sort.Walk0
namespace Go.Proofs.YtobpacebpiabcaaGreatDoor
open Go.RowKit Go.Lib

/-- A fresh term with P and no error. -/
def RetTmE (P : Tm → Prop) (w : World) (e : Ending) (w' : World) : Prop := ∃ t v, e = .returned (.tuple #[v, .int .i64 0]) ∧ TmV (fun b => w.heap.size ≤ b) w' v t ∧ P t ∧ Below w.heap.size w w'
set_option maxHeartbeats 6400000 in
theorem bigshort_any {S : Nat → Prop} {w : World} {v : Value} {t : Tm} {B0 : Nat} (h : TmV S w v t) (ho : t.ok = true) (hL : LibOk B0 w) : Calls Tryz.prog 12 #[v] w (RetTmE (fun u => u = t.short) w) := by
  obtain ⟨ku, rfl, hku⟩ := h
  obtain ⟨A, m, c, rfl, -⟩ := hku.open'
  have hsh : t.fo.shp = true := by have h := Tm.ok_shp ho; rw [fo_shp, h.1, h.2.1]; rfl
  have hf : t.fo.fit := Fo.shp_fit _ hsh
  have hcn : t.fo.cnt ≤ 64 := by have h := (Tm.ok_shp ho).2.2; rw [fo_cnt]; omega
  obtain ⟨R, hR⟩ : ∃ R, w.heap.size + 1 = R := ⟨_, rfl⟩
  have HRE := Lib.hid hR
  obtain ⟨W3, hW3⟩ : ∃ W3, W3 = w.alloc (.cells #[.int .i64 t.1, .string ⟨t.2.1.toArray⟩, .int .i64 t.2.2.1, .slice A m c] 26) := ⟨_, rfl⟩
  have HS3 := Lib.hid (show W3.heap.size = R by rw [← hR, hW3]; simp)
  obtain ⟨W4, hW4⟩ : ∃ W4, W4 = W3.alloc (.cells #[.int .i64 0, .string ⟨#[]⟩, .int .i64 0, .slice none 0 0] 26) := ⟨_, rfl⟩
  have hB : Below w.heap.size w W4 := by rw [hW4, hW3]; exact ((Below.refl _ _).alloc (Nat.le_refl _) _).alloc (by simp) _
  have HB := Lib.hid hB
  have HX := Lib.hid (show Blk W4 w.heap.size #[.int .i64 t.1, .string ⟨t.2.1.toArray⟩, .int .i64 t.2.2.1, .slice A m c] 26 by
    rw [hW4]
    exact Blk.below (w := W3) (by rw [hW3]; exact Blk.new _ _ _) ((Below.refl _ _).alloc (Nat.le_refl _) _))
  have HZ := Lib.hid (show Blk W4 R #[.int .i64 0, .string ⟨#[]⟩, .int .i64 0, .slice none 0 0] 26 by
    rw [hW4, ← HS3.out]; exact Blk.new _ _ _)
  have cv := valid_one (_w := w) (hku.below hB) hf 26
  rw [ho] at cv
  have HTX := Lib.hid (show ∀ W, Below w.heap.size w W → Calls Tryz.prog 51 #[.agg #[.int .i64 t.1, .string ⟨t.2.1.toArray⟩, .int .i64 t.2.2.1, .slice A m c]] W (RetTm (fun u => u = t.short) W) from fun W hb => short_any _ t S _ W B0 (Nat.lt_succ_self _) ⟨_, rfl, hku.below hb⟩ hsh hcn (hL.below hb))
  generalize t.short = ts at *
  clear hku hf hB ho hsh hcn hL
  generalize t.1 = kk at *
  generalize t.2.1 = knm at *
  generalize t.2.2.1 = kn at *
  have k0 := HX.out.cell 0
  have k1 := HX.out.cell 1
  have k2 := HX.out.cell 2
  have k3 := HX.out.cell 3
  have HRL := Lib.hid (show w.heap.size ≤ R by omega)
  have HR4 := Lib.hid (show Below W4.heap.size W4 (W4.alloc (.cells #[.int .i64 kk, .string ⟨knm.toArray⟩, .int .i64 kn, .slice A m c] 26)) from (Below.refl _ _).alloc (Nat.le_refl _) _)
  clear hR
  go_enter Tryz.func12, Tryz.ntmps12
  go_upto_region 1 with fail
  rw [← hW3, ← hW4, HRE.out]
  clear hW3 hW4
  go_wp2_with fail
  refine cv.mono ?_
  rintro e W5 ⟨rfl, hn5⟩
  have HN5 := Lib.hid (HR4.out.trans (hn5.mono HR4.out.size))
  have HW5 := Lib.hid (HB.out.trans (HN5.out.mono HB.out.size))
  have ct := HTX.out W5 HW5.out
  clear cv hn5 k0 k1 k2 k3
  have hx5 := HX.out.below HN5.out
  have k0 := hx5.cell 0
  have k1 := hx5.cell 1
  have k2 := hx5.cell 2
  have k3 := hx5.cell 3
  clear hx5
  go_wp2_with fail
  refine ct.mono ?_
  rintro e W6 ⟨tq, vq, rfl, ⟨uq, rfl, hkq⟩, htq, hn6⟩
  obtain ⟨A6, m6, c6, rfl, -⟩ := hkq.open'
  have HZ6 := Lib.hid ((HZ.out.below HN5.out).below hn6)
  have HW6 := Lib.hid (HW5.out.trans (hn6.mono HW5.out.size))
  have hsb : ∀ b, W5.heap.size ≤ b → b ≠ R := fun b hb e => by have h1 := HZ.out.lt; have h2 := HN5.out.size; omega
  have HEK := Lib.hid (((((hkq.set ⟨R, 0, none⟩ hsb (.int .i64 tq.1)).set ⟨R, 1, none⟩ hsb (.string ⟨tq.2.1.toArray⟩)).set ⟨R, 2, none⟩ hsb (.int .i64 tq.2.2.1)).set ⟨R, 3, none⟩ hsb (.slice A6 m6 c6)).mono (T := fun b => w.heap.size ≤ b) (fun b hb _ => Nat.le_trans HW5.out.size hb))
  have HE := Lib.hid ((((HZ6.out.set 0 (.int .i64 tq.1)).set 1 (.string ⟨tq.2.1.toArray⟩)).set 2 (.int .i64 tq.2.2.1)).set 3 (.slice A6 m6 c6))
  have HEB := Lib.hid ((((HW6.out.setCell (p := ⟨R, 0, none⟩) HRL.out (.int .i64 tq.1)).setCell (p := ⟨R, 1, none⟩) HRL.out (.string ⟨tq.2.1.toArray⟩)).setCell (p := ⟨R, 2, none⟩) HRL.out (.int .i64 tq.2.2.1)).setCell (p := ⟨R, 3, none⟩) HRL.out (.slice A6 m6 c6))
  have HTQ := Lib.hid htq
  clear hsb ct hn6 k0 k1 k2 k3 hkq htq
  generalize hk' : tq.1 = k' at *
  generalize hnm' : tq.2.1 = nm' at *
  generalize hn' : tq.2.2.1 = n' at *
  have HT := Lib.hid (And.intro hk' (And.intro hnm' hn'))
  clear hk' hnm' hn'
  have z0 := HZ6.out.cell 0
  have z1 := HZ6.out.cell 1
  have z2 := HZ6.out.cell 2
  have z3 := HZ6.out.cell 3
  have g0 := HZ6.out.free 0
  have g1 := HZ6.out.free 1
  have g2 := HZ6.out.free 2
  have g3 := HZ6.out.free 3
  go_wp2
  have r0 := HE.out.cell 0
  have r1 := HE.out.cell 1
  have r2 := HE.out.cell 2
  have r3 := HE.out.cell 3
  refine bodyPost_ret (v := .tuple #[.agg #[.int .i64 k', .string ⟨nm'.toArray⟩, .int .i64 n', .slice A6 m6 c6], .int .i64 0]) ?_ rfl ⟨tq, _, rfl, ⟨.slice A6 m6 c6, by rw [HT.out.1, HT.out.2.1, HT.out.2.2], HEK.out⟩, HTQ.out, HEB.out⟩
  simp at r0 r1 r2 r3
  simp [results, Tryz.results12, go_sem, r0, r1, r2, r3]
end Go.Proofs.YtobpacebpiabcaaGreatDoor

namespace Go.Proofs.YtobpacebpiabcaaGreatDoor
open Go.RowKit Go.Lib

theorem BoolO.form {w : World} {base : Nat} {v : Value} {l : List Bool} (h : BoolO w base v l) : ∃ A c, v = .slice A l.length c := by
  obtain ⟨A, c, h1, _⟩ := h.boolV
  exact ⟨A, c, h1⟩
theorem RetWatch.yes {t : Tm} {log : List Ev} {w w' : World} {e : Ending} (h : RetWatch t log w e w') (ho : t.ok = true) (hl : logB log = true) : ∃ A c, e = .returned (.tuple #[.slice A log.length c, .int .i64 0]) ∧ BoolV w' (.slice A log.length c) (t.watch log) ∧ Below w.heap.size w w' := by
  rcases h with ⟨_, _, v, h3, h4, h5⟩ | ⟨h1, _⟩
  · obtain ⟨A, c, rfl⟩ := h4.form
    have h6 := h4.boolV
    rw [watch_len] at h3 h6
    exact ⟨A, c, h3, h6, h5⟩
  · rw [ho, hl] at h1; cases h1
end Go.Proofs.YtobpacebpiabcaaGreatDoor

namespace Go.Proofs.YtobpacebpiabcaaGreatDoor
open Go.RowKit Go.Lib

end Go.Proofs.YtobpacebpiabcaaGreatDoor

namespace Go.Proofs.YtobpacebpiabcaaGreatDoor
open Go.RowKit Go.Lib

set_option maxHeartbeats 6400000 in
theorem termstext_bad {S : Nat → Prop} {w : World} {v : Value} {t : Tm} (h : TmV S w v t) (hf : t.fo.fit) (ho : t.ok = false) : Calls Tryz.prog 13 #[v] w (RetW (.tuple #[.string ⟨#[]⟩, .int .i64 1]) w) := by
  obtain ⟨ku, rfl, hku⟩ := h
  obtain ⟨A, m, c, rfl, -⟩ := hku.open'
  obtain ⟨W3, hW3⟩ : ∃ W3, W3 = w.alloc (.cells #[.int .i64 t.1, .string ⟨t.2.1.toArray⟩, .int .i64 t.2.2.1, .slice A m c] 26) := ⟨_, rfl⟩
  have hB : Below w.heap.size w W3 := by rw [hW3]; exact (Below.refl _ _).alloc (Nat.le_refl _) _
  have HB := Lib.hid hB
  have HX := Lib.hid (show Blk W3 w.heap.size #[.int .i64 t.1, .string ⟨t.2.1.toArray⟩, .int .i64 t.2.2.1, .slice A m c] 26 by rw [hW3]; exact Blk.new _ _ _)
  have cv := valid_one (_w := w) (hku.below hB) hf 26
  rw [ho] at cv
  clear hku hf hB ho
  generalize t.1 = kk at *
  generalize t.2.1 = knm at *
  generalize t.2.2.1 = kn at *
  have k0 := HX.out.cell 0
  have k1 := HX.out.cell 1
  have k2 := HX.out.cell 2
  have k3 := HX.out.cell 3
  have HW4 := Lib.hid (show Below w.heap.size w (W3.alloc (.cells #[.int .i64 kk, .string ⟨knm.toArray⟩, .int .i64 kn, .slice A m c] 26)) from HB.out.alloc HB.out.size _)
  go_enter Tryz.func13, Tryz.ntmps13
  go_upto_region 1 with fail
  rw [← hW3]
  clear hW3
  go_wp2_with fail
  refine cv.mono ?_
  rintro e W5 ⟨rfl, hn5⟩
  have HW5 := Lib.hid (HW4.out.trans (hn5.mono HW4.out.size))
  clear cv hn5 k0 k1 k2 k3
  go_wp2
  refine bodyPost_ret (v := .tuple #[.string ⟨#[]⟩, .int .i64 1]) ?_ rfl ⟨rfl, HW5.out⟩
  simp [results, Tryz.results13, go_sem]
set_option maxHeartbeats 6400000 in
theorem bigshort_bad {S : Nat → Prop} {w : World} {v : Value} {t : Tm} (h : TmV S w v t) (hf : t.fo.fit) (ho : t.ok = false) : Calls Tryz.prog 12 #[v] w (RetW (.tuple #[.agg #[.int .i64 0, .string ⟨#[]⟩, .int .i64 0, .slice none 0 0], .int .i64 1]) w) := by
  obtain ⟨ku, rfl, hku⟩ := h
  obtain ⟨A, m, c, rfl, -⟩ := hku.open'
  obtain ⟨R, hR⟩ : ∃ R, w.heap.size + 1 = R := ⟨_, rfl⟩
  have HRE := Lib.hid hR
  obtain ⟨W3, hW3⟩ : ∃ W3, W3 = w.alloc (.cells #[.int .i64 t.1, .string ⟨t.2.1.toArray⟩, .int .i64 t.2.2.1, .slice A m c] 26) := ⟨_, rfl⟩
  have HS3 := Lib.hid (show W3.heap.size = R by rw [← hR, hW3]; simp)
  obtain ⟨W4, hW4⟩ : ∃ W4, W4 = W3.alloc (.cells #[.int .i64 0, .string ⟨#[]⟩, .int .i64 0, .slice none 0 0] 26) := ⟨_, rfl⟩
  have hB : Below w.heap.size w W4 := by rw [hW4, hW3]; exact ((Below.refl _ _).alloc (Nat.le_refl _) _).alloc (by simp) _
  have HB := Lib.hid hB
  have HX := Lib.hid (show Blk W4 w.heap.size #[.int .i64 t.1, .string ⟨t.2.1.toArray⟩, .int .i64 t.2.2.1, .slice A m c] 26 by
    rw [hW4]
    exact Blk.below (w := W3) (by rw [hW3]; exact Blk.new _ _ _) ((Below.refl _ _).alloc (Nat.le_refl _) _))
  have HZ := Lib.hid (show Blk W4 R #[.int .i64 0, .string ⟨#[]⟩, .int .i64 0, .slice none 0 0] 26 by
    rw [hW4, ← HS3.out]; exact Blk.new _ _ _)
  have cv := valid_one (_w := w) (hku.below hB) hf 26
  rw [ho] at cv
  clear hku hf hB ho
  generalize t.1 = kk at *
  generalize t.2.1 = knm at *
  generalize t.2.2.1 = kn at *
  have k0 := HX.out.cell 0
  have k1 := HX.out.cell 1
  have k2 := HX.out.cell 2
  have k3 := HX.out.cell 3
  have HRL := Lib.hid (show w.heap.size ≤ R by omega)
  have HR4 := Lib.hid (show Below W4.heap.size W4 (W4.alloc (.cells #[.int .i64 kk, .string ⟨knm.toArray⟩, .int .i64 kn, .slice A m c] 26)) from (Below.refl _ _).alloc (Nat.le_refl _) _)
  clear hR
  go_enter Tryz.func12, Tryz.ntmps12
  go_upto_region 1 with fail
  rw [← hW3, ← hW4, HRE.out]
  clear hW3 hW4
  go_wp2_with fail
  refine cv.mono ?_
  rintro e W5 ⟨rfl, hn5⟩
  have HN5 := Lib.hid (HR4.out.trans (hn5.mono HR4.out.size))
  have HW6 := Lib.hid (HB.out.trans (HN5.out.mono HB.out.size))
  have HZ6 := Lib.hid (HZ.out.below HN5.out)
  have HE := Lib.hid ((((HZ6.out.set 0 (.int .i64 0)).set 1 (.string ⟨#[]⟩)).set 2 (.int .i64 0)).set 3 (.slice none 0 0))
  have HEB := Lib.hid ((((HW6.out.setCell (p := ⟨R, 0, none⟩) HRL.out (.int .i64 0)).setCell (p := ⟨R, 1, none⟩) HRL.out (.string ⟨#[]⟩)).setCell (p := ⟨R, 2, none⟩) HRL.out (.int .i64 0)).setCell (p := ⟨R, 3, none⟩) HRL.out (.slice none 0 0))
  clear cv hn5 k0 k1 k2 k3
  have z0 := HZ6.out.cell 0
  have z1 := HZ6.out.cell 1
  have z2 := HZ6.out.cell 2
  have z3 := HZ6.out.cell 3
  have g0 := HZ6.out.free 0
  have g1 := HZ6.out.free 1
  have g2 := HZ6.out.free 2
  have g3 := HZ6.out.free 3
  go_wp2
  have r0 := HE.out.cell 0
  have r1 := HE.out.cell 1
  have r2 := HE.out.cell 2
  have r3 := HE.out.cell 3
  refine bodyPost_ret (v := .tuple #[.agg #[.int .i64 0, .string ⟨#[]⟩, .int .i64 0, .slice none 0 0], .int .i64 1]) ?_ rfl ⟨rfl, HEB.out⟩
  simp at r0 r1 r2 r3
  simp [results, Tryz.results12, go_sem, r0, r1, r2, r3]
end Go.Proofs.YtobpacebpiabcaaGreatDoor
