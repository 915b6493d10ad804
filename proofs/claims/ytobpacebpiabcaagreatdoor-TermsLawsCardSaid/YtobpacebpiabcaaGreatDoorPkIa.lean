/- Texts Ia Ib in one. -/
import Derived.Test.YtobpacebpiabcaaGreatDoorHj
import Derived.Test.YtobpacebpiabcaaGreatDoorPkDm
import Derived.Test.YtobpacebpiabcaaGreatDoorGg
import Derived.Test.YtobpacebpiabcaaGreatDoorCk
namespace Go.Proofs.YtobpacebpiabcaaGreatDoor
open Go.RowKit Go.Lib

/-- A term is returned: its head as letters, and that it is the term. -/
def RetT (t : Tm) (w : World) (e : Ending) (w' : World) : Prop := ∃ k nm n A m c, e = .returned (.agg #[.int .i64 k, .string nm, .int .i64 n, .slice A m c]) ∧ TmV (fun _ => True) w' (.agg #[.int .i64 k, .string nm, .int .i64 n, .slice A m c]) t ∧ Below w.heap.size w w'
theorem RetOne.retT {P : Nat → Prop} {t : Tm} {w w' : World} {e : Ending} (h : RetOne P t w e w') : RetT t w e w' := by
  obtain ⟨v, rfl, ⟨u, rfl, hu⟩, hb⟩ := h
  have hu2 := hu.mono (T := fun _ => True) (fun _ _ _ => trivial)
  obtain ⟨A, m, c, rfl, -⟩ := hu.open'
  exact ⟨_, _, _, _, _, _, rfl, ⟨_, rfl, hu2⟩, hb⟩
theorem RetTm.retT {P : Tm → Prop} {w w' : World} {e : Ending} (h : RetTm P w e w') : ∃ t, P t ∧ RetT t w e w' := by
  obtain ⟨t, v, rfl, ⟨u, rfl, hu⟩, hp, hb⟩ := h
  have hu2 := hu.mono (T := fun _ => True) (fun _ _ _ => trivial)
  obtain ⟨A, m, c, rfl, -⟩ := hu.open'
  exact ⟨t, hp, _, _, _, _, _, _, rfl, ⟨_, rfl, hu2⟩, hb⟩
theorem tone_t {S : Nat → Prop} {w : World} {v : Value} {t : Tm} (k : Int) (h : TmV S w v t) : Calls Tryz.prog 38 #[.int .i64 k, v] w (RetT (oneT k 0 t) w) := (tone_any k h).mono (fun _ _ h => h.retT)
set_option maxHeartbeats 3200000 in
theorem ttwo_any {S S2 : Nat → Prop} {w : World} {v v2 : Value} {t s : Tm} (k : Int) (h : TmV S w v t) (h2 : TmV S2 w v2 s) : Calls Tryz.prog 37 #[.int .i64 k, v, v2] w (RetT (twoT k t s) w) := by
  obtain ⟨u, rfl, hu0⟩ := h
  obtain ⟨u2, rfl, hu20⟩ := h2
  have hu := hu0.mono (T := fun b => b < w.heap.size) (fun _ _ h => h)
  have hu2 := hu20.mono (T := fun b => b < w.heap.size) (fun _ _ h => h)
  obtain ⟨A, m, c, rfl, -⟩ := hu.open'
  obtain ⟨A2, m2, c2, rfl, -⟩ := hu2.open'
  obtain ⟨W1, hW1⟩ : ∃ W1, W1 = w.alloc (.cells #[.int .i64 t.1, .string ⟨t.2.1.toArray⟩, .int .i64 t.2.2.1, .slice A m c] 26) := ⟨_, rfl⟩
  obtain ⟨W2, hW2⟩ : ∃ W2, W2 = W1.alloc (.cells #[.int .i64 s.1, .string ⟨s.2.1.toArray⟩, .int .i64 s.2.2.1, .slice A2 m2 c2] 26) := ⟨_, rfl⟩
  obtain ⟨W3, hW3⟩ : ∃ W3, W3 = W2.alloc (.cells #[.int .i64 0, .string ⟨#[]⟩, .int .i64 0, .slice none 0 0] 26) := ⟨_, rfl⟩
  have hb1 : Below w.heap.size w W1 := by rw [hW1]; exact (Below.refl _ _).alloc (Nat.le_refl _) _
  have hb2 : Below W1.heap.size W1 W2 := by rw [hW2]; exact (Below.refl _ _).alloc (Nat.le_refl _) _
  have hb3 : Below W2.heap.size W2 W3 := by rw [hW3]; exact (Below.refl _ _).alloc (Nat.le_refl _) _
  obtain ⟨R1, hR1⟩ : ∃ R1, w.heap.size + 1 = R1 := ⟨_, rfl⟩
  obtain ⟨R, hRR⟩ : ∃ R, R1 + 1 = R := ⟨_, rfl⟩
  have s1 : W1.heap.size = R1 := by rw [hW1, ← hR1]; simp
  have s2 : W2.heap.size = R := by rw [hW2, ← hRR, ← s1]; simp
  have hb23 := hb2.trans (hb3.mono hb2.size)
  have HX3 := Lib.hid (show Blk W3 w.heap.size #[.int .i64 t.1, .string ⟨t.2.1.toArray⟩, .int .i64 t.2.2.1, .slice A m c] 26 from Blk.below (w := W1) (by rw [hW1]; exact Blk.new _ _ _) hb23)
  have HY3 := Lib.hid (show Blk W3 R1 #[.int .i64 s.1, .string ⟨s.2.1.toArray⟩, .int .i64 s.2.2.1, .slice A2 m2 c2] 26 from Blk.below (w := W2) (by rw [← s1, hW2]; exact Blk.new _ _ _) hb3)
  have HZ3 := Lib.hid (show Blk W3 R #[.int .i64 0, .string ⟨#[]⟩, .int .i64 0, .slice none 0 0] 26 by rw [← s2, hW3]; exact Blk.new _ _ _)
  have HB3 := Lib.hid (hb1.trans (hb23.mono hb1.size))
  have HRW := Lib.hid (show w.heap.size < R by omega)
  have HRR := Lib.hid hRR
  have HR1 := Lib.hid hR1
  have HU := Lib.hid (hu.below HB3.out)
  have HU2 := Lib.hid (hu2.below HB3.out)
  clear hb1 hb2 hb3 hb23 hu hu0 hu2 hu20 s1 s2 hRR hR1
  go_enter Tryz.func37, Tryz.ntmps37
  go_upto_region 1 with fail
  rw [← hW1, ← hW2, ← hW3, HR1.out, HRR.out]
  clear hW1 hW2 hW3
  have x0 := HX3.out.cell 0
  have x1 := HX3.out.cell 1
  have x2 := HX3.out.cell 2
  have x3 := HX3.out.cell 3
  have y0 := HY3.out.cell 0
  have y1 := HY3.out.cell 1
  have y2 := HY3.out.cell 2
  have y3 := HY3.out.cell 3
  obtain ⟨W4, hW4⟩ : ∃ W4, W4 = W3.alloc (.cells #[.int .i64 t.1, .string ⟨t.2.1.toArray⟩, .int .i64 t.2.2.1, .slice A m c, .int .i64 s.1, .string ⟨s.2.1.toArray⟩, .int .i64 s.2.2.1, .slice A2 m2 c2] 26) := ⟨_, rfl⟩
  have hb4 : Below W3.heap.size W3 W4 := by rw [hW4]; exact (Below.refl _ _).alloc (Nat.le_refl _) _
  have hz4 := HZ3.out.below hb4
  have HK4 := Lib.hid (show KidsV (fun b => b < w.heap.size ∨ b = W3.heap.size) W4 (.slice (some ⟨W3.heap.size, 0, none⟩) 2 2) (pairF t s) by rw [hW4]; exact kidsV_pair _ HU.out HU2.out)
  have HE := Lib.hid (hz4.set4 (.int .i64 k) (.string ⟨#[]⟩) (.int .i64 0) (.slice (some ⟨W3.heap.size, 0, none⟩) 2 2))
  have HB4 := Lib.hid (HB3.out.trans (hb4.mono HB3.out.size))
  have HEB := Lib.hid (HB4.out.trans (below_set4 (N := w.heap.size) (Nat.le_of_lt HRW.out) (.int .i64 k) (.string ⟨#[]⟩) (.int .i64 0) (.slice (some ⟨W3.heap.size, 0, none⟩) 2 2)))
  have HK := Lib.hid (show KidsV (fun _ => True) (set4 W4 R (.int .i64 k) (.string ⟨#[]⟩) (.int .i64 0) (.slice (some ⟨W3.heap.size, 0, none⟩) 2 2)) (.slice (some ⟨W3.heap.size, 0, none⟩) 2 2) (pairF t s) from
    (HK4.out.set4 (B := R) (fun b hs e => by
      have h1 := HRW.out
      have h2 := HZ3.out.lt
      rcases hs with h | h <;> omega) (.int .i64 k) (.string ⟨#[]⟩) (.int .i64 0) (.slice (some ⟨W3.heap.size, 0, none⟩) 2 2)).mono (fun _ _ _ => trivial))
  have HW4 := Lib.hid hW4
  have z0 := hz4.cell 0
  have z1 := hz4.cell 1
  have z2 := hz4.cell 2
  have z3 := hz4.cell 3
  have g0 := hz4.free 0
  have g1 := hz4.free 1
  have g2 := hz4.free 2
  have g3 := hz4.free 3
  clear hb4 hz4
  rw [hW4] at z0 z1 z2 z3 g0 g1 g2 g3
  clear hW4
  go_wp2
  obtain rfl := HW4.out
  have r0 := HE.out.cell 0
  have r1 := HE.out.cell 1
  have r2 := HE.out.cell 2
  have r3 := HE.out.cell 3
  refine bodyPost_ret (v := .agg #[.int .i64 k, .string ⟨#[]⟩, .int .i64 0, .slice (some ⟨W3.heap.size, 0, none⟩) 2 2]) ?_ rfl ⟨_, _, _, _, _, _, rfl, ⟨_, rfl, HK.out⟩, HEB.out⟩
  simp [set4] at r0 r1 r2 r3
  simp [results, Tryz.results37, go_sem, r0, r1, r2, r3]
/-! Lists of four. -/
def fourF (a b c d : Tm) : Fo := .cons a.1 a.2.1 a.2.2.1 a.2.2.2 (.cons b.1 b.2.1 b.2.2.1 b.2.2.2 (.cons c.1 c.2.1 c.2.2.1 c.2.2.2 d.fo))
theorem kidsV_four {w : World} {a b c d : Tm} {k1 n1 k2 n2 k3 n3 k4 n4 : Int} {nm1 nm2 nm3 nm4 : ByteArray} {u1 u2 u3 u4 : Value} (ty : TypeId) (h1 : TmV (fun _ => True) w (.agg #[.int .i64 k1, .string nm1, .int .i64 n1, u1]) a) (h2 : TmV (fun _ => True) w (.agg #[.int .i64 k2, .string nm2, .int .i64 n2, u2]) b) (h3 : TmV (fun _ => True) w (.agg #[.int .i64 k3, .string nm3, .int .i64 n3, u3]) c) (h4 : TmV (fun _ => True) w (.agg #[.int .i64 k4, .string nm4, .int .i64 n4, u4]) d) :
    KidsAt (fun _ => True) (w.alloc (.cells #[.int .i64 k1, .string nm1, .int .i64 n1, u1, .int .i64 k2, .string nm2, .int .i64 n2, u2, .int .i64 k3, .string nm3, .int .i64 n3, u3, .int .i64 k4, .string nm4, .int .i64 n4, u4] ty)) (some ⟨w.heap.size, 0, none⟩) (fourF a b c d) := by
  have hb : Below w.heap.size w (w.alloc (.cells #[.int .i64 k1, .string nm1, .int .i64 n1, u1, .int .i64 k2, .string nm2, .int .i64 n2, u2, .int .i64 k3, .string nm3, .int .i64 n3, u3, .int .i64 k4, .string nm4, .int .i64 n4, u4] ty)) := (Below.refl _ _).alloc (Nat.le_refl _) _
  have op : ∀ {k n : Int} {nm : ByteArray} {u : Value} {t : Tm}, TmV (fun _ => True) w (.agg #[.int .i64 k, .string nm, .int .i64 n, u]) t → k = t.1 ∧ nm = ⟨t.2.1.toArray⟩ ∧ n = t.2.2.1 ∧ KidsV (fun _ => True) w u t.2.2.2 := fun h => by
    obtain ⟨u', h, hk⟩ := h
    injection h with h
    injection h with h
    injection h with e1 h
    injection h with e2 h
    injection h with e3 h
    injection h with e4 h
    injection e1 with _ e1
    injection e2 with e2
    injection e3 with _ e3
    subst e4
    exact ⟨e1, e2, e3, hk⟩
  obtain ⟨rfl, rfl, rfl, q1⟩ := op h1
  obtain ⟨rfl, rfl, rfl, q2⟩ := op h2
  obtain ⟨rfl, rfl, rfl, q3⟩ := op h3
  obtain ⟨rfl, rfl, rfl, q4⟩ := op h4
  obtain ⟨A1, c1, rfl, h11, h12, h13, h14⟩ := q1.below hb
  obtain ⟨A2, c2, rfl, h21, h22, h23, h24⟩ := q2.below hb
  obtain ⟨A3, c3, rfl, h31, h32, h33, h34⟩ := q3.below hb
  obtain ⟨A4, c4, rfl, h41, h42, h43, h44⟩ := q4.below hb
  exact ⟨_, 0, rfl, trivial, by simp, cell_new _ _ _ _, cell_new _ _ _ _, cell_new _ _ _ _, ⟨A1, c1, cell_new _ _ _ _, h11, h12, h13, h14⟩, _, 4, rfl, trivial, by simp, cell_new _ _ _ _, cell_new _ _ _ _, cell_new _ _ _ _, ⟨A2, c2, cell_new _ _ _ _, h21, h22, h23, h24⟩, _, 8, rfl, trivial, by simp, cell_new _ _ _ _, cell_new _ _ _ _, cell_new _ _ _ _, ⟨A3, c3, cell_new _ _ _ _, h31, h32, h33, h34⟩, _, 12, rfl, trivial, by simp, cell_new _ _ _ _, cell_new _ _ _ _, cell_new _ _ _ _, ⟨A4, c4, cell_new _ _ _ _, h41, h42, h43, h44⟩, trivial⟩
/-! What Agree returns. -/
theorem abc_names : namesB abcN 8 = true ∧ Lean6 abcN := by
  refine ⟨by decide, fun x hx => ?_⟩
  have := abc_len x hx
  omega
theorem agr_same {a b : Tm} (ha : a.ok = true) (hb : b.ok = true) (hs : ∀ log i, a.says log i = b.says log i) {w w' : World} {e : Ending} (h : RetAgr a b abcN w e w') : Below w.heap.size w w' ∧ ∃ is cn, e = .returned (.tuple #[.slice none 0 0, .bool is, .int .i64 cn]) ∧ (cn = 0 ∧ is = true ∨ is = false ∧ (cn = 2 ∨ cn = 3)) := by
  have h1 : cmpN a b abcN ≠ 1 := by
    rw [cmpN_ok ha hb abc_names.1 (by decide)]
    split
    · decide
    · split <;> decide
  rcases h with ⟨h2, rfl, h3⟩ | ⟨_, _, rfl, h3⟩ | ⟨r, v, h0, h2, _, _, _⟩
  · refine ⟨h3, _, _, rfl, .inr ⟨rfl, ?_⟩⟩
    have := cmpN_in a b abcN
    omega
  · exact ⟨h3, _, _, rfl, .inl ⟨rfl, rfl⟩⟩
  · obtain ⟨_, _, _, _, hoa, hob, _⟩ := cmpN_zero h0
    obtain ⟨⟨u, c, rfl⟩, _, h4, _⟩ := agree_some (ok_shp ha) (odd_plain abcN _ hoa) (ok_shp hb) (odd_plain abcN _ hob) h2
    have := (h4 u.length (by simp)).1 (hs _ _)
    simp at this
end Go.Proofs.YtobpacebpiabcaaGreatDoor

namespace Go.Proofs.YtobpacebpiabcaaGreatDoor
open Go.RowKit Go.Lib

theorem fourF_len (a b c d : Tm) : (fourF a b c d).len = 4 := rfl
/-- The law's eight terms: each of the one list is valid and says what the other list's says. -/
theorem four_laws {f g : Tm} (hf : Abc 13 f) (hg : Abc 13 g) {j : Nat} (hj : j < 4) :
    ((fourF (oneT 7 0 f) (oneT 8 0 f) (twoT 9 f g) (oneT 6 0 (twoT 4 f g))).get j).ok = true ∧ ((fourF (twoT 9 yesT f) (oneT 3 0 (oneT 7 0 (oneT 3 0 f))) (twoT 5 g (twoT 4 f (oneT 6 0 (twoT 9 f g)))) (twoT 4 (oneT 6 0 f) (oneT 6 0 g))).get j).ok = true ∧
    ∀ log i, ((fourF (oneT 7 0 f) (oneT 8 0 f) (twoT 9 f g) (oneT 6 0 (twoT 4 f g))).get j).says log i = ((fourF (twoT 9 yesT f) (oneT 3 0 (oneT 7 0 (oneT 3 0 f))) (twoT 5 g (twoT 4 f (oneT 6 0 (twoT 9 f g)))) (twoT 4 (oneT 6 0 f) (oneT 6 0 g))).get j).says log i := by
  have hy : Abc 1 yesT := ⟨rfl, (fun x hx => by cases hx), Nat.le_refl _⟩
  match j, hj with
  | 0, _ => exact ⟨(hf.one (k := 7) (n := 0) (by decide)).ok (by decide), (hy.two hf (k := 9) (by decide)).ok (by decide), fun log i => law_once f log i⟩
  | 1, _ => exact ⟨(hf.one (k := 8) (n := 0) (by decide)).ok (by decide), (((hf.one (k := 3) (n := 0) (by decide)).one (k := 7) (n := 0) (by decide)).one (k := 3) (n := 0) (by decide)).ok (by decide), fun log i => law_always f log i⟩
  | 2, _ => exact ⟨(hf.two hg (k := 9) (by decide)).ok (by decide), (hg.two (hf.two ((hf.two hg (k := 9) (by decide)).one (k := 6) (n := 0) (by decide)) (k := 4) (by decide)) (k := 5) (by decide)).ok (by decide), fun log i => law_since f g log i⟩
  | 3, _ => exact ⟨((hf.two hg (k := 4) (by decide)).one (k := 6) (n := 0) (by decide)).ok (by decide), ((hf.one (k := 6) (n := 0) (by decide)).two (hg.one (k := 6) (n := 0) (by decide)) (k := 4) (by decide)).ok (by decide), fun log i => law_prev f g log i⟩
theorem watch_same {t u : Tm} {log : List Ev} (h : ∀ i, t.says log i = u.says log i) : t.watch log = u.watch log := by
  unfold Tm.watch
  rw [show t.says log = u.says log from funext h]
set_option maxRecDepth 100000 in
set_option maxHeartbeats 12800000 in
theorem laws_any {B0 N0 N1 : Nat} {l l2 : List Nd} {x : List Ev} {u v y : Value} {w : World} (hu : NodesV N0 w u l) (hN : N0 ≤ w.heap.size) (hf : NdFit l) (hv : NodesV N1 w v l2) (hN1 : N1 ≤ w.heap.size) (hf2 : NdFit l2) (hx : EvV w y x) (hL : LibOk B0 w) : Calls Tryz.prog 8 #[u, v, y] w (RetW (.bool true) w) := by
  have cs1 := some_any hu hN hf 6 (by omega)
  have HS2 := Lib.hid (show ∀ W, Below w.heap.size w W → Calls Tryz.prog 25 #[v, .int .i64 6] W (RetTm (Abc 13) W) from fun W hb => some_any (hv.below hN1 hb) (Nat.le_trans hN1 hb.size) hf2 6 (by omega))
  have HH := Lib.hid (show ∀ W, Below w.heap.size w W → Calls Tryz.prog 26 #[y, .int .i64 60] W (RetHist (min x.length 60) W) from fun W hb => history_any (hx.below hb) 60 (by omega))
  have HL := Lib.hid (show ∀ W, Below w.heap.size w W → Calls Tryz.prog 21 #[] W (RetW (.bool true) W) from fun W hb => lives_any B0 W (hL.below hb))
  obtain ⟨A1, m1, c1, rfl⟩ : ∃ A m c, u = .slice A m c := by obtain ⟨A, c, h, _⟩ := hu; exact ⟨A, _, c, h⟩
  obtain ⟨A2, m2, c2, rfl⟩ : ∃ A m c, v = .slice A m c := by obtain ⟨A, c, h, _⟩ := hv; exact ⟨A, _, c, h⟩
  obtain ⟨A3, m3, c3, rfl⟩ : ∃ A m c, y = .slice A m c := by obtain ⟨A, c, h, _⟩ := hx; exact ⟨A, _, c, h⟩
  obtain ⟨n, hn⟩ : ∃ n, min x.length 60 = n := ⟨_, rfl⟩
  rw [hn] at HH
  have HN60 := Lib.hid (show n ≤ 60 by omega)
  clear hu hN hf hv hN1 hf2 hx hL hn
  go_enter Tryz.func8, Tryz.ntmps8
  go_wp2_with fail
  refine cs1.mono ?_
  rintro e W1 hr1
  obtain ⟨f, hfa, fk, fnm, fn, Af, mf, cf, rfl, htf, hb1⟩ := hr1.retT
  have HFA := Lib.hid hfa
  have HB1 := Lib.hid hb1
  have HTF := Lib.hid htf
  have cs2 := HS2.out W1 hb1
  clear cs1 hr1 hfa htf hb1 HS2
  go_wp2_with fail
  refine cs2.mono ?_
  rintro e W2 hr2
  obtain ⟨g, hga, gk, gnm, gn, Ag, mg, cg, rfl, htg, hb2⟩ := hr2.retT
  have HGA := Lib.hid hga
  have HB2 := Lib.hid (HB1.out.trans (hb2.mono HB1.out.size))
  have HTG := Lib.hid htg
  have HTF2 := Lib.hid (HTF.out.below hb2)
  have ch := HH.out W2 HB2.out
  clear cs2 hr2 hga htg hb2 HTF HH
  go_wp2_with fail
  refine ch.mono ?_
  rintro e W3 ⟨log, v3, rfl, hown, hhi, hb3⟩
  have HHI := Lib.hid hhi
  have HEV := Lib.hid hown.evV
  obtain ⟨A5, m5, c5, rfl, hm5⟩ : ∃ A m c, v3 = .slice A m c ∧ m = n := by obtain ⟨A, c, h, _⟩ := HEV.out; exact ⟨A, _, c, h, hhi.len⟩
  subst hm5
  have HB3 := Lib.hid (HB2.out.trans (hb3.mono HB2.out.size))
  have HTF3 := Lib.hid (HTF2.out.below hb3)
  have HTG3 := Lib.hid (HTG.out.below hb3)
  clear ch hown hhi hb3 HTF2 HTG
  go_upto_region 2 with fail
  obtain ⟨W4, hW4⟩ : ∃ W4, W4 = W3.alloc (.cells #[.int .i64 fk, .string fnm, .int .i64 fn, .slice Af mf cf] 26) := ⟨_, rfl⟩
  obtain ⟨W5, hW5⟩ : ∃ W5, W5 = W4.alloc (.cells #[.int .i64 gk, .string gnm, .int .i64 gn, .slice Ag mg cg] 26) := ⟨_, rfl⟩
  have hb4 : Below W3.heap.size W3 W4 := by rw [hW4]; exact (Below.refl _ _).alloc (Nat.le_refl _) _
  have hb5 : Below W4.heap.size W4 W5 := by rw [hW5]; exact (Below.refl _ _).alloc (Nat.le_refl _) _
  obtain ⟨R1, hR1⟩ : ∃ R1, W3.heap.size = R1 := ⟨_, rfl⟩
  obtain ⟨R2, hR2⟩ : ∃ R2, R1 + 1 = R2 := ⟨_, rfl⟩
  have s4 : W4.heap.size = R2 := by rw [hW4, ← hR2, ← hR1]; simp
  rw [← hW4, ← hW5, hR1, hR2]
  have HF5 := Lib.hid (show Blk W5 R1 #[.int .i64 fk, .string fnm, .int .i64 fn, .slice Af mf cf] 26 from Blk.below (w := W4) (by rw [hW4, ← hR1]; exact Blk.new _ _ _) hb5)
  have HG5 := Lib.hid (show Blk W5 R2 #[.int .i64 gk, .string gnm, .int .i64 gn, .slice Ag mg cg] 26 by rw [← s4, hW5]; exact Blk.new _ _ _)
  have hb35 := hb4.trans (hb5.mono hb4.size)
  have HB5 := Lib.hid (HB3.out.trans (hb35.mono HB3.out.size))
  have HTF5 := Lib.hid (HTF3.out.below hb35)
  have HTG5 := Lib.hid (HTG3.out.below hb35)
  have HEV5 := Lib.hid (HEV.out.below hb35)
  clear hW4 hW5 hb4 hb5 hb35 hR1 hR2 s4 HTF3 HTG3 HB3 HEV
  go_upto_region 3 with fail
  obtain ⟨W6, hW6⟩ : ∃ W6, W6 = W5.alloc (.cells #[.int .i64 1, .string ⟨#[]⟩, .int .i64 0, .slice none 0 0] 26) := ⟨_, rfl⟩
  have hb6 : Below W5.heap.size W5 W6 := by rw [hW6]; exact (Below.refl _ _).alloc (Nat.le_refl _) _
  obtain ⟨R3, hR3⟩ : ∃ R3, W5.heap.size = R3 := ⟨_, rfl⟩
  rw [← hW6, hR3]
  have HY6 := Lib.hid (show Blk W6 R3 #[.int .i64 1, .string ⟨#[]⟩, .int .i64 0, .slice none 0 0] 26 by rw [hW6, ← hR3]; exact Blk.new _ _ _)
  have HF6 := Lib.hid (HF5.out.below hb6)
  have HG6 := Lib.hid (HG5.out.below hb6)
  have HB6 := Lib.hid (HB5.out.trans (hb6.mono HB5.out.size))
  have HTF6 := Lib.hid (HTF5.out.below hb6)
  have HTG6 := Lib.hid (HTG5.out.below hb6)
  have HEV6 := Lib.hid (HEV5.out.below hb6)
  have ct := ttwo_any 9 HTF6.out HTG6.out
  clear hW6 hb6 hR3 HF5 HG5 HB5 HTF5 HTG5 HEV5
  have f0 := HF6.out.cell 0
  have f1 := HF6.out.cell 1
  have f2 := HF6.out.cell 2
  have f3 := HF6.out.cell 3
  have g0 := HG6.out.cell 0
  have g1 := HG6.out.cell 1
  have g2 := HG6.out.cell 2
  have g3 := HG6.out.cell 3
  go_wp2_with fail
  refine ct.mono ?_
  rintro e W7 ⟨sk, snm, sn, As, ms, cs, rfl, hts, hb7⟩
  have HTS7 := Lib.hid hts
  have HB7 := Lib.hid hb7
  clear ct hts hb7 f0 f1 f2 f3 g0 g1 g2 g3
  go_upto_region 4 with fail
  obtain ⟨W8, hW8⟩ : ∃ W8, W8 = W7.alloc (.cells #[.int .i64 sk, .string snm, .int .i64 sn, .slice As ms cs] 26) := ⟨_, rfl⟩
  have hb8 : Below W7.heap.size W7 W8 := by rw [hW8]; exact (Below.refl _ _).alloc (Nat.le_refl _) _
  obtain ⟨R4, hR4⟩ : ∃ R4, W7.heap.size = R4 := ⟨_, rfl⟩
  rw [← hW8, hR4]
  have HS8 := Lib.hid (show Blk W8 R4 #[.int .i64 sk, .string snm, .int .i64 sn, .slice As ms cs] 26 by rw [hW8, ← hR4]; exact Blk.new _ _ _)
  have hb68 := HB7.out.trans (hb8.mono HB7.out.size)
  have HF8 := Lib.hid (HF6.out.below hb68)
  have HG8 := Lib.hid (HG6.out.below hb68)
  have HY8 := Lib.hid (HY6.out.below hb68)
  have HB8 := Lib.hid (HB6.out.trans (hb68.mono HB6.out.size))
  have HTF := Lib.hid (HTF6.out.below hb68)
  have HTG := Lib.hid (HTG6.out.below hb68)
  have HTS := Lib.hid (HTS7.out.below hb8)
  have HEV8 := Lib.hid (HEV6.out.below hb68)
  clear hW8 hb8 hR4 hb68 HF6 HG6 HY6 HB6 HTF6 HTG6 HTS7 HEV6 HB7
  have HA0 := Lib.hid (And.intro (HF8.out.cell 0) HF8.out.lt)
  have HA1 := Lib.hid (And.intro (HF8.out.cell 1) HF8.out.lt)
  have HA2 := Lib.hid (And.intro (HF8.out.cell 2) HF8.out.lt)
  have HA3 := Lib.hid (And.intro (HF8.out.cell 3) HF8.out.lt)
  have HA4 := Lib.hid (And.intro (HG8.out.cell 0) HG8.out.lt)
  have HA5 := Lib.hid (And.intro (HG8.out.cell 1) HG8.out.lt)
  have HA6 := Lib.hid (And.intro (HG8.out.cell 2) HG8.out.lt)
  have HA7 := Lib.hid (And.intro (HG8.out.cell 3) HG8.out.lt)
  have HA8 := Lib.hid (And.intro (HS8.out.cell 0) HS8.out.lt)
  have HA9 := Lib.hid (And.intro (HS8.out.cell 1) HS8.out.lt)
  have HA10 := Lib.hid (And.intro (HS8.out.cell 2) HS8.out.lt)
  have HA11 := Lib.hid (And.intro (HS8.out.cell 3) HS8.out.lt)
  refine Lex.wp_region_lex (fun w' => Below W8.heap.size W8 w') (fun _ => true)
    [(0, true), (2, true), (4, true), (5, true), (6, true), (1, false), (3, false), (7, false), (8, false), (9, false), (10, false)]
    (by kernel_rfl) (by kernel_rfl) (by kernel_rfl) (by kernel_rfl) ⟨rfl, rfl, rfl, Nat.le_refl _, fun _ _ => rfl⟩ ?_
  have hb0 : Below W8.heap.size W8 W8.drew := ⟨rfl, rfl, rfl, Nat.le_refl _, fun _ _ => rfl⟩
  have hw0 : Below w.heap.size w W8.drew := ⟨HB8.out.os, HB8.out.tape, HB8.out.output, HB8.out.size, HB8.out.block⟩
  generalize hV0 : W8.drew = V0 at *
  clear hV0
  iterate 5 (refine Lex.lex_take (v := ?_) rfl rfl (by rfl) (fun _ hS => ?_) ?_; rotate_left 1; (focus (have g0 := (hS.cell HA0.out.2).trans HA0.out.1; have g1 := (hS.cell HA1.out.2).trans HA1.out.1; have g2 := (hS.cell HA2.out.2).trans HA2.out.1; have g3 := (hS.cell HA3.out.2).trans HA3.out.1; have g4 := (hS.cell HA4.out.2).trans HA4.out.1; have g5 := (hS.cell HA5.out.2).trans HA5.out.1; have g6 := (hS.cell HA6.out.2).trans HA6.out.1; have g7 := (hS.cell HA7.out.2).trans HA7.out.1; have g8 := (hS.cell HA8.out.2).trans HA8.out.1; have g9 := (hS.cell HA9.out.2).trans HA9.out.1; have g10 := (hS.cell HA10.out.2).trans HA10.out.1; have g11 := (hS.cell HA11.out.2).trans HA11.out.1; clear hS; go_simp; with_reducible rfl)); simp only [List.setIfInBounds_toArray, List.set_cons_zero, List.set_cons_succ])
  refine Lex.lex_do rfl ?_
  have cc := tone_t 7 (HTF.out.below hb0)
  go_wp2_with fail
  refine cc.mono ?_
  rintro e V1 ⟨k1, nm1, n1, A11, m11, c11, rfl, ht1, hn1⟩
  have hb1 := hb0.trans (hn1.mono hb0.size)
  have hw1 := hw0.trans (hn1.mono hw0.size)
  clear cc hb0 hw0
  clear hn1
  go_wp2_with fail
  refine Lex.lexQ_normal (fun _ => hb1) ?_
  refine Lex.lex_do rfl ?_
  have cc := tone_t 8 (HTF.out.below hb1)
  go_wp2_with fail
  refine cc.mono ?_
  rintro e V2 ⟨k2, nm2, n2, A12, m12, c12, rfl, ht2, hn2⟩
  have hb2 := hb1.trans (hn2.mono hb1.size)
  have hw2 := hw1.trans (hn2.mono hw1.size)
  clear cc hb1 hw1
  replace ht1 := ht1.below hn2
  clear hn2
  go_wp2_with fail
  refine Lex.lexQ_normal (fun _ => hb2) ?_
  refine Lex.lex_do rfl ?_
  have cc := ttwo_any 4 (HTF.out.below hb2) (HTG.out.below hb2)
  go_wp2_with fail
  refine cc.mono ?_
  rintro e V3 ⟨k3, nm3, n3, A13, m13, c13, rfl, ht3, hn3⟩
  have hb3 := hb2.trans (hn3.mono hb2.size)
  have hw3 := hw2.trans (hn3.mono hw2.size)
  clear cc hb2 hw2
  replace ht1 := ht1.below hn3
  replace ht2 := ht2.below hn3
  clear hn3
  go_wp2_with fail
  refine Lex.lexQ_normal (fun _ => hb3) ?_
  refine Lex.lex_do rfl ?_
  have cc := tone_t 6 ht3
  go_wp2_with fail
  refine cc.mono ?_
  rintro e V4 ⟨k4, nm4, n4, A14, m14, c14, rfl, ht4, hn4⟩
  have hb4 := hb3.trans (hn4.mono hb3.size)
  have hw4 := hw3.trans (hn4.mono hw3.size)
  clear cc hb3 hw3
  replace ht1 := ht1.below hn4
  replace ht2 := ht2.below hn4
  clear ht3
  clear hn4
  go_wp2_with fail
  refine Lex.lexQ_normal (fun _ => hb4) ?_
  refine Lex.lex_do rfl ?_
  go_wp2_with fail
  refine Lex.lexQ_normal (fun _ => hb4.alloc hb4.size _) ?_
  refine Lex.lex_do rfl ?_
  go_wp2_with fail
  refine Lex.lexQ_normal (fun _ => hb4.alloc hb4.size _) ?_
  refine Lex.lex_nil ?_
  have HB4 := Lib.hid hb4
  have HW4 := Lib.hid hw4
  have HK9 := Lib.hid (kidsV_four 26 ht1 ht2 (HTS.out.below hb4) ht4)
  obtain ⟨W9, hW9⟩ : ∃ W9, W9 = V4.alloc (.cells #[.int .i64 k1, .string nm1, .int .i64 n1, .slice A11 m11 c11, .int .i64 k2, .string nm2, .int .i64 n2, .slice A12 m12 c12, .int .i64 sk, .string snm, .int .i64 sn, .slice As ms cs, .int .i64 k4, .string nm4, .int .i64 n4, .slice A14 m14 c14] 26) := ⟨_, rfl⟩
  rw [← hW9] at HK9 ⊢
  have hb9 : Below V4.heap.size V4 W9 := by rw [hW9]; exact (Below.refl _ _).alloc (Nat.le_refl _) _
  obtain ⟨R5, hR5⟩ : ∃ R5, V4.heap.size = R5 := ⟨_, rfl⟩
  rw [hR5] at HK9 ⊢
  have hb89 := HB4.out.trans (hb9.mono HB4.out.size)
  have HK5 := Lib.hid (show R5 < W9.heap.size by rw [← hR5, hW9]; simp)
  have HF9 := Lib.hid (HF8.out.below hb89)
  have HG9 := Lib.hid (HG8.out.below hb89)
  have HY9 := Lib.hid (HY8.out.below hb89)
  have HS9 := Lib.hid (HS8.out.below hb89)
  have HB9 := Lib.hid (HB8.out.trans (hb89.mono HB8.out.size))
  have HTF9 := Lib.hid (HTF.out.below hb89)
  have HTG9 := Lib.hid (HTG.out.below hb89)
  have HTS9 := Lib.hid (HTS.out.below hb89)
  have HTY := Lib.hid (show ∀ W, TmV (fun _ => True) W (.agg #[.int .i64 1, .string ⟨#[]⟩, .int .i64 0, .slice none 0 0]) yesT from fun W => ⟨_, rfl, KidsV.nil _ _⟩)
  have HEV9 := Lib.hid (HEV8.out.below hb89)
  clear ht1 ht2 ht4 hb4 hw4 hW9 hb9 hR5 hb89 HF8 HG8 HY8 HS8 HB8 HTF HTG HTS HEV8 HA0 HA1 HA2 HA3 HA4 HA5 HA6 HA7 HA8 HA9 HA10 HA11 HB4 HW4
  have HA0 := Lib.hid (And.intro (HF9.out.cell 0) HF9.out.lt)
  have HA1 := Lib.hid (And.intro (HF9.out.cell 1) HF9.out.lt)
  have HA2 := Lib.hid (And.intro (HF9.out.cell 2) HF9.out.lt)
  have HA3 := Lib.hid (And.intro (HF9.out.cell 3) HF9.out.lt)
  have HA4 := Lib.hid (And.intro (HG9.out.cell 0) HG9.out.lt)
  have HA5 := Lib.hid (And.intro (HG9.out.cell 1) HG9.out.lt)
  have HA6 := Lib.hid (And.intro (HG9.out.cell 2) HG9.out.lt)
  have HA7 := Lib.hid (And.intro (HG9.out.cell 3) HG9.out.lt)
  have HA8 := Lib.hid (And.intro (HS9.out.cell 0) HS9.out.lt)
  have HA9 := Lib.hid (And.intro (HS9.out.cell 1) HS9.out.lt)
  have HA10 := Lib.hid (And.intro (HS9.out.cell 2) HS9.out.lt)
  have HA11 := Lib.hid (And.intro (HS9.out.cell 3) HS9.out.lt)
  have HA12 := Lib.hid (And.intro (HY9.out.cell 0) HY9.out.lt)
  have HA13 := Lib.hid (And.intro (HY9.out.cell 1) HY9.out.lt)
  have HA14 := Lib.hid (And.intro (HY9.out.cell 2) HY9.out.lt)
  have HA15 := Lib.hid (And.intro (HY9.out.cell 3) HY9.out.lt)
  go_upto_region 5 with fail
  refine Lex.wp_region_lex (fun w' => Below W9.heap.size W9 w') (fun _ => true)
    [(0, true), (1, true), (3, true), (7, true), (8, true), (9, true), (13, true), (15, true), (2, false), (4, false), (5, false), (6, false), (10, false), (11, false), (12, false), (14, false), (16, false), (17, false), (18, false), (19, false)]
    (by kernel_rfl) (by kernel_rfl) (by kernel_rfl) (by kernel_rfl) ⟨rfl, rfl, rfl, Nat.le_refl _, fun _ _ => rfl⟩ ?_
  have hb0 : Below W9.heap.size W9 W9.drew := ⟨rfl, rfl, rfl, Nat.le_refl _, fun _ _ => rfl⟩
  have hw0 : Below w.heap.size w W9.drew := ⟨HB9.out.os, HB9.out.tape, HB9.out.output, HB9.out.size, HB9.out.block⟩
  generalize hV0 : W9.drew = U0 at *
  clear hV0
  iterate 8 (refine Lex.lex_take (v := ?_) rfl rfl (by rfl) (fun _ hS => ?_) ?_; rotate_left 1; (focus (have g0 := (hS.cell HA0.out.2).trans HA0.out.1; have g1 := (hS.cell HA1.out.2).trans HA1.out.1; have g2 := (hS.cell HA2.out.2).trans HA2.out.1; have g3 := (hS.cell HA3.out.2).trans HA3.out.1; have g4 := (hS.cell HA4.out.2).trans HA4.out.1; have g5 := (hS.cell HA5.out.2).trans HA5.out.1; have g6 := (hS.cell HA6.out.2).trans HA6.out.1; have g7 := (hS.cell HA7.out.2).trans HA7.out.1; have g8 := (hS.cell HA8.out.2).trans HA8.out.1; have g9 := (hS.cell HA9.out.2).trans HA9.out.1; have g10 := (hS.cell HA10.out.2).trans HA10.out.1; have g11 := (hS.cell HA11.out.2).trans HA11.out.1; have g12 := (hS.cell HA12.out.2).trans HA12.out.1; have g13 := (hS.cell HA13.out.2).trans HA13.out.1; have g14 := (hS.cell HA14.out.2).trans HA14.out.1; have g15 := (hS.cell HA15.out.2).trans HA15.out.1; clear hS; go_simp; with_reducible rfl)); simp only [List.setIfInBounds_toArray, List.set_cons_zero, List.set_cons_succ])
  refine Lex.lex_do rfl ?_
  have cc := ttwo_any 9 (HTY.out U0) (HTF9.out.below hb0)
  go_wp2_with fail
  refine cc.mono ?_
  rintro e U1 ⟨x1, xm1, y1, B1, p1, q1, rfl, ht1, hn1⟩
  have hb1 := hb0.trans (hn1.mono hb0.size)
  have hw1 := hw0.trans (hn1.mono hw0.size)
  clear cc hb0 hw0
  clear hn1
  go_wp2_with fail
  refine Lex.lexQ_normal (fun _ => hb1) ?_
  refine Lex.lex_do rfl ?_
  have cc := tone_t 3 (HTF9.out.below hb1)
  go_wp2_with fail
  refine cc.mono ?_
  rintro e U2 ⟨x2, xm2, y2, B2, p2, q2, rfl, ht2, hn2⟩
  have hb2 := hb1.trans (hn2.mono hb1.size)
  have hw2 := hw1.trans (hn2.mono hw1.size)
  clear cc hb1 hw1
  replace ht1 := ht1.below hn2
  clear hn2
  go_wp2_with fail
  refine Lex.lexQ_normal (fun _ => hb2) ?_
  refine Lex.lex_do rfl ?_
  have cc := tone_t 7 ht2
  go_wp2_with fail
  refine cc.mono ?_
  rintro e U3 ⟨x3, xm3, y3, B3, p3, q3, rfl, ht3, hn3⟩
  have hb3 := hb2.trans (hn3.mono hb2.size)
  have hw3 := hw2.trans (hn3.mono hw2.size)
  clear cc hb2 hw2
  replace ht1 := ht1.below hn3
  clear ht2
  clear hn3
  go_wp2_with fail
  refine Lex.lexQ_normal (fun _ => hb3) ?_
  refine Lex.lex_do rfl ?_
  have cc := tone_t 3 ht3
  go_wp2_with fail
  refine cc.mono ?_
  rintro e U4 ⟨x4, xm4, y4, B4, p4, q4, rfl, ht4, hn4⟩
  have hb4 := hb3.trans (hn4.mono hb3.size)
  have hw4 := hw3.trans (hn4.mono hw3.size)
  clear cc hb3 hw3
  replace ht1 := ht1.below hn4
  clear ht3
  clear hn4
  go_wp2_with fail
  refine Lex.lexQ_normal (fun _ => hb4) ?_
  refine Lex.lex_do rfl ?_
  have cc := tone_t 6 (HTS9.out.below hb4)
  go_wp2_with fail
  refine cc.mono ?_
  rintro e U5 ⟨x5, xm5, y5, B5, p5, q5, rfl, ht5, hn5⟩
  have hb5 := hb4.trans (hn5.mono hb4.size)
  have hw5 := hw4.trans (hn5.mono hw4.size)
  clear cc hb4 hw4
  replace ht1 := ht1.below hn5
  replace ht4 := ht4.below hn5
  clear hn5
  go_wp2_with fail
  refine Lex.lexQ_normal (fun _ => hb5) ?_
  refine Lex.lex_do rfl ?_
  have cc := ttwo_any 4 (HTF9.out.below hb5) ht5
  go_wp2_with fail
  refine cc.mono ?_
  rintro e U6 ⟨x6, xm6, y6, B6, p6, q6, rfl, ht6, hn6⟩
  have hb6 := hb5.trans (hn6.mono hb5.size)
  have hw6 := hw5.trans (hn6.mono hw5.size)
  clear cc hb5 hw5
  replace ht1 := ht1.below hn6
  replace ht4 := ht4.below hn6
  clear ht5
  clear hn6
  go_wp2_with fail
  refine Lex.lexQ_normal (fun _ => hb6) ?_
  refine Lex.lex_do rfl ?_
  have cc := ttwo_any 5 (HTG9.out.below hb6) ht6
  go_wp2_with fail
  refine cc.mono ?_
  rintro e U7 ⟨x7, xm7, y7, B7, p7, q7, rfl, ht7, hn7⟩
  have hb7 := hb6.trans (hn7.mono hb6.size)
  have hw7 := hw6.trans (hn7.mono hw6.size)
  clear cc hb6 hw6
  replace ht1 := ht1.below hn7
  replace ht4 := ht4.below hn7
  clear ht6
  clear hn7
  go_wp2_with fail
  refine Lex.lexQ_normal (fun _ => hb7) ?_
  refine Lex.lex_do rfl ?_
  have cc := tone_t 6 (HTF9.out.below hb7)
  go_wp2_with fail
  refine cc.mono ?_
  rintro e U8 ⟨x8, xm8, y8, B8, p8, q8, rfl, ht8, hn8⟩
  have hb8 := hb7.trans (hn8.mono hb7.size)
  have hw8 := hw7.trans (hn8.mono hw7.size)
  clear cc hb7 hw7
  replace ht1 := ht1.below hn8
  replace ht4 := ht4.below hn8
  replace ht7 := ht7.below hn8
  clear hn8
  go_wp2_with fail
  refine Lex.lexQ_normal (fun _ => hb8) ?_
  refine Lex.lex_do rfl ?_
  have cc := tone_t 6 (HTG9.out.below hb8)
  go_wp2_with fail
  refine cc.mono ?_
  rintro e U9 ⟨x9, xm9, y9, B9, p9, q9, rfl, ht9, hn9⟩
  have hb9 := hb8.trans (hn9.mono hb8.size)
  have hw9 := hw8.trans (hn9.mono hw8.size)
  clear cc hb8 hw8
  replace ht1 := ht1.below hn9
  replace ht4 := ht4.below hn9
  replace ht7 := ht7.below hn9
  replace ht8 := ht8.below hn9
  clear hn9
  go_wp2_with fail
  refine Lex.lexQ_normal (fun _ => hb9) ?_
  refine Lex.lex_do rfl ?_
  have cc := ttwo_any 4 ht8 ht9
  go_wp2_with fail
  refine cc.mono ?_
  rintro e U10 ⟨x10, xm10, y10, B10, p10, q10, rfl, ht10, hn10⟩
  have hb10 := hb9.trans (hn10.mono hb9.size)
  have hw10 := hw9.trans (hn10.mono hw9.size)
  clear cc hb9 hw9
  replace ht1 := ht1.below hn10
  replace ht4 := ht4.below hn10
  replace ht7 := ht7.below hn10
  clear ht8 ht9
  clear hn10
  go_wp2_with fail
  refine Lex.lexQ_normal (fun _ => hb10) ?_
  refine Lex.lex_do rfl ?_
  go_wp2_with fail
  refine Lex.lexQ_normal (fun _ => hb10.alloc hb10.size _) ?_
  refine Lex.lex_do rfl ?_
  go_wp2_with fail
  refine Lex.lexQ_normal (fun _ => hb10.alloc hb10.size _) ?_
  refine Lex.lex_nil ?_
  have HB10 := Lib.hid hb10
  have HW10 := Lib.hid hw10
  have HK10 := Lib.hid (kidsV_four 26 ht1 ht4 ht7 ht10)
  clear HA0 HA1 HA2 HA3 HA4 HA5 HA6 HA7 HA8 HA9 HA10 HA11 HA12 HA13 HA14 HA15 HF9 HG9 HY9 HS9 HTF9 HTG9 HTS9 HTY ht1 ht4 ht7 ht10 hb10 hw10
  obtain ⟨WL, hWL⟩ : ∃ WL, WL = U10.alloc (.cells #[.int .i64 x1, .string xm1, .int .i64 y1, .slice B1 p1 q1, .int .i64 x4, .string xm4, .int .i64 y4, .slice B4 p4 q4, .int .i64 x7, .string xm7, .int .i64 y7, .slice B7 p7 q7, .int .i64 x10, .string xm10, .int .i64 y10, .slice B10 p10 q10] 26) := ⟨_, rfl⟩
  rw [← hWL] at HK10 ⊢
  have hb11 : Below U10.heap.size U10 WL := by rw [hWL]; exact (Below.refl _ _).alloc (Nat.le_refl _) _
  obtain ⟨R6, hR6⟩ : ∃ R6, U10.heap.size = R6 := ⟨_, rfl⟩
  rw [hR6] at HK10 ⊢
  have hb9L := HB10.out.trans (hb11.mono HB10.out.size)
  have HK6 := Lib.hid (show R6 < WL.heap.size by rw [← hR6, hWL]; simp)
  have HK5L := Lib.hid (Nat.lt_of_lt_of_le HK5.out hb9L.size)
  have HKL := Lib.hid (HK9.out.below hb9L)
  have HBL := Lib.hid (HB9.out.trans (hb9L.mono HB9.out.size))
  have HEV := Lib.hid (HEV9.out.below hb9L)
  have HLAW := Lib.hid (fun j (hj : j < 4) => four_laws HFA.out HGA.out hj)
  have HLEN := Lib.hid (And.intro (fourF_len (oneT 7 0 f) (oneT 8 0 f) (twoT 9 f g) (oneT 6 0 (twoT 4 f g))) (fourF_len (twoT 9 yesT f) (oneT 3 0 (oneT 7 0 (oneT 3 0 f))) (twoT 5 g (twoT 4 f (oneT 6 0 (twoT 9 f g)))) (twoT 4 (oneT 6 0 f) (oneT 6 0 g))))
  generalize fourF (oneT 7 0 f) (oneT 8 0 f) (twoT 9 f g) (oneT 6 0 (twoT 4 f g)) = F1 at *
  generalize fourF (twoT 9 yesT f) (oneT 3 0 (oneT 7 0 (oneT 3 0 f))) (twoT 5 g (twoT 4 f (oneT 6 0 (twoT 9 f g)))) (twoT 4 (oneT 6 0 f) (oneT 6 0 g)) = F2 at *
  clear hWL hb11 hR6 hb9L HK5 HK9 HB9 HEV9 HFA HGA HB10 HW10
  go_wp2
  go_loopw [14] (fun s14 wr => ∃ j : Nat, j ≤ 4 ∧ s14 = .int .i64 (j : Int) ∧ Below WL.heap.size WL wr) (fun s14 _ => 4 - (intOf s14).toNat)
  case atStart => exact ⟨0, by omega, rfl, Below.refl _ _⟩
  case round =>
    obtain ⟨j, hj, rfl, hbr⟩ := hrel
    have HR := Lib.hid hbr
    have HWR := Lib.hid (HBL.out.trans (hbr.mono HBL.out.size))
    clear hbr
    by_cases hlt : j < 4
    · obtain ⟨u1, hu1, c0, c1, c2, c3⟩ := (HKL.out.below HR.out).get (i := j) (by rw [HLEN.out.1]; exact hlt)
      obtain ⟨u2, hu2, d0, d1, d2, d3⟩ := (HK10.out.below HR.out).get (i := j) (by rw [HLEN.out.2]; exact hlt)
      obtain ⟨hok1, hok2, hsay⟩ := HLAW.out j hlt
      generalize F1.get j = t1 at *
      generalize F2.get j = t2 at *
      obtain ⟨E1, e1, r1, rfl, -⟩ := hu1.open'
      obtain ⟨E2, e2, r2, rfl, -⟩ := hu2.open'
      have HLT1 := Lib.hid (show R5 < wr.heap.size from Nat.lt_of_lt_of_le HK5L.out HR.out.size)
      have HLT2 := Lib.hid (show R6 < wr.heap.size from Nat.lt_of_lt_of_le HK6.out HR.out.size)
      rw [Nat.zero_add] at c0 c1 c2 c3 d0 d1 d2 d3
      have HC0 := Lib.hid (And.intro c0 HLT1.out)
      have HC1 := Lib.hid (And.intro c1 HLT1.out)
      have HC2 := Lib.hid (And.intro c2 HLT1.out)
      have HC3 := Lib.hid (And.intro c3 HLT1.out)
      have HD0 := Lib.hid (And.intro d0 HLT2.out)
      have HD1 := Lib.hid (And.intro d1 HLT2.out)
      have HD2 := Lib.hid (And.intro d2 HLT2.out)
      have HD3 := Lib.hid (And.intro d3 HLT2.out)
      have HAL := Lib.hid (show ∀ W, Below wr.heap.size wr W → Calls Tryz.prog 35 #[.agg #[.int .i64 t1.1, .string ⟨t1.2.1.toArray⟩, .int .i64 t1.2.2.1, .slice E1 e1 r1], .agg #[.int .i64 t2.1, .string ⟨t2.2.1.toArray⟩, .int .i64 t2.2.2.1, .slice E2 e2 r2], .slice A5 m5 c5] W (RetW (.bool true) W) from fun W hb => by
        have h := alike_any (t := t1) (u := t2) (S := fun _ => True) (S2 := fun _ => True) ⟨_, rfl, hu1.below hb⟩ ⟨_, rfl, hu2.below hb⟩ (HEV.out.below (HR.out.trans (hb.mono HR.out.size))) (HHI.out.fit (by have := HN60.out; omega)) (HHI.out.logB (by have := HN60.out; omega)) hok1 hok2
        rw [watch_same (hsay log), decide_eq_true rfl] at h; exact h)
      have HAG := Lib.hid (show ∀ W v, Below wr.heap.size wr W → StrV W v abcN → Calls Tryz.prog 17 #[.agg #[.int .i64 t1.1, .string ⟨t1.2.1.toArray⟩, .int .i64 t1.2.2.1, .slice E1 e1 r1], .agg #[.int .i64 t2.1, .string ⟨t2.2.1.toArray⟩, .int .i64 t2.2.2.1, .slice E2 e2 r2], v] W (fun e w' => Below W.heap.size W w' ∧ ∃ is cn, e = .returned (.tuple #[.slice none 0 0, .bool is, .int .i64 cn]) ∧ (cn = 0 ∧ is = true ∨ is = false ∧ (cn = 2 ∨ cn = 3))) from fun W v hb hv =>
        (agree_any (a := t1) (b := t2) (S := fun _ => True) (S2 := fun _ => True) ⟨_, rfl, hu1.below hb⟩ ⟨_, rfl, hu2.below hb⟩ (Fo.shp_fit _ (ok_shp hok1)) (Fo.shp_fit _ (ok_shp hok2)) hv abc_names.2).mono (fun _ _ h => agr_same hok1 hok2 hsay h))
      have hj4 : (j : Int) < 4 := by omega
      have hj0 : (0 : Int) ≤ (j : Int) := by omega
      have hjl : j ≤ 3 := by omega
      clear c0 c1 c2 c3 d0 d1 d2 d3 hu1 hu2 hok1 hok2 hsay
      generalize t1.1 = ak at *
      generalize t1.2.1 = anm at *
      generalize t1.2.2.1 = an at *
      generalize t2.1 = bk at *
      generalize t2.2.1 = bnm at *
      generalize t2.2.2.1 = bn at *
      go_upto_region 9 with fail
      refine Lex.wp_region_lex (fun w' => Below wr.heap.size wr w') (fun _ => true)
        [(0, true), (1, true), (2, true), (3, true), (4, true), (5, true), (6, true), (7, true), (8, true), (9, false), (10, true)]
        (by kernel_rfl) (by kernel_rfl) (by kernel_rfl) (by kernel_rfl) ⟨rfl, rfl, rfl, Nat.le_refl _, fun _ _ => rfl⟩ ?_
      have hb0 : Below wr.heap.size wr wr.drew := ⟨rfl, rfl, rfl, Nat.le_refl _, fun _ _ => rfl⟩
      have hw0 : Below w.heap.size w wr.drew := ⟨HWR.out.os, HWR.out.tape, HWR.out.output, HWR.out.size, HWR.out.block⟩
      generalize hV0 : wr.drew = X0 at *
      clear hV0
      iterate 9 (refine Lex.lex_take (v := ?_) rfl rfl (by rfl) (fun _ hS => ?_) ?_; rotate_left 1; (focus (have g0 := (hS.cell HC0.out.2).trans HC0.out.1; have g1 := (hS.cell HC1.out.2).trans HC1.out.1; have g2 := (hS.cell HC2.out.2).trans HC2.out.1; have g3 := (hS.cell HC3.out.2).trans HC3.out.1; have g4 := (hS.cell HD0.out.2).trans HD0.out.1; have g5 := (hS.cell HD1.out.2).trans HD1.out.1; have g6 := (hS.cell HD2.out.2).trans HD2.out.1; have g7 := (hS.cell HD3.out.2).trans HD3.out.1; clear hS; go_simp; with_reducible rfl)); simp only [List.setIfInBounds_toArray, List.set_cons_zero, List.set_cons_succ])
      refine Lex.lex_do rfl ?_
      have cc := HAL.out X0 hb0
      go_wp2_with fail
      refine cc.mono ?_
      rintro e X1 ⟨rfl, hn1⟩
      have hb1 := hb0.trans (hn1.mono hb0.size)
      have hw1 := hw0.trans (hn1.mono hw0.size)
      clear cc hb0 hw0
      clear hn1
      go_wp2_with fail
      refine Lex.lexQ_normal (fun _ => hb1) ?_
      refine Lex.lex_take (v := ?_) rfl rfl (by rfl) (fun _ hS => ?_) ?_; rotate_left 1; (focus (have g0 := (hS.cell HC0.out.2).trans HC0.out.1; have g1 := (hS.cell HC1.out.2).trans HC1.out.1; have g2 := (hS.cell HC2.out.2).trans HC2.out.1; have g3 := (hS.cell HC3.out.2).trans HC3.out.1; have g4 := (hS.cell HD0.out.2).trans HD0.out.1; have g5 := (hS.cell HD1.out.2).trans HD1.out.1; have g6 := (hS.cell HD2.out.2).trans HD2.out.1; have g7 := (hS.cell HD3.out.2).trans HD3.out.1; clear hS; go_simp; with_reducible rfl)); simp only [List.setIfInBounds_toArray, List.set_cons_zero, List.set_cons_succ]
      refine Lex.lex_nil ?_
      have HBX := Lib.hid hb1
      have HWX := Lib.hid hw1
      clear hb1 hw1 HAL
      go_upto_region 11 with fail
      have HD := fun {p : Addr} {u : Value} (h : wr.cell? p = some u ∧ p.block < wr.heap.size) => And.intro ((HBX.out.cell h.2).trans h.1) (Nat.lt_of_lt_of_le h.2 HBX.out.size)
      have HE0 := Lib.hid (HD HC0.out)
      have HE1 := Lib.hid (HD HC1.out)
      have HE2 := Lib.hid (HD HC2.out)
      have HE3 := Lib.hid (HD HC3.out)
      have HE4 := Lib.hid (HD HD0.out)
      have HE5 := Lib.hid (HD HD1.out)
      have HE6 := Lib.hid (HD HD2.out)
      have HE7 := Lib.hid (HD HD3.out)
      clear HD HC0 HC1 HC2 HC3 HD0 HD1 HD2 HD3
      refine Lex.wp_region_lex (fun w' => Below X1.heap.size X1 w') (fun _ => true)
        [(0, true), (1, true), (2, true), (3, true), (4, true), (5, true), (6, true), (7, true), (8, false), (9, false), (10, true), (11, true), (12, true), (13, true), (14, false), (15, false), (16, false)]
        (by kernel_rfl) (by kernel_rfl) (by kernel_rfl) (by kernel_rfl) ⟨rfl, rfl, rfl, Nat.le_refl _, fun _ _ => rfl⟩ ?_
      have hb0 : Below X1.heap.size X1 X1.drew := ⟨rfl, rfl, rfl, Nat.le_refl _, fun _ _ => rfl⟩
      have hw0 : Below w.heap.size w X1.drew := ⟨HWX.out.os, HWX.out.tape, HWX.out.output, HWX.out.size, HWX.out.block⟩
      generalize hV0 : X1.drew = Y0 at *
      clear hV0
      iterate 8 (refine Lex.lex_take (v := ?_) rfl rfl (by rfl) (fun _ hS => ?_) ?_; rotate_left 1; (focus (have g0 := (hS.cell HE0.out.2).trans HE0.out.1; have g1 := (hS.cell HE1.out.2).trans HE1.out.1; have g2 := (hS.cell HE2.out.2).trans HE2.out.1; have g3 := (hS.cell HE3.out.2).trans HE3.out.1; have g4 := (hS.cell HE4.out.2).trans HE4.out.1; have g5 := (hS.cell HE5.out.2).trans HE5.out.1; have g6 := (hS.cell HE6.out.2).trans HE6.out.1; have g7 := (hS.cell HE7.out.2).trans HE7.out.1; clear hS; go_simp; with_reducible rfl)); simp only [List.setIfInBounds_toArray, List.set_cons_zero, List.set_cons_succ])
      refine Lex.lex_do rfl ?_
      go_wp2_with fail
      refine Lex.lexQ_normal (fun _ => hb0.alloc hb0.size _) ?_
      refine Lex.lex_do rfl ?_
      have cc := HAG.out _ _ (HBX.out.trans ((hb0.alloc hb0.size (.cells #[.string ⟨#[97]⟩, .string ⟨#[98]⟩, .string ⟨#[99]⟩] 9)).mono HBX.out.size)) (abc_str Y0 9)
      go_wp2_with fail
      refine cc.mono ?_
      rintro e Y1 ⟨hny, is, cn, rfl, hcn⟩
      clear cc
      have HBY := Lib.hid ((hb0.alloc hb0.size _).trans (hny.mono (by simpa using Nat.le_succ_of_le hb0.size)))
      go_wp2_with fail
      refine Lex.lexQ_normal (fun _ => HBY.out) ?_
      iterate 4 (refine Lex.lex_take (v := ?_) rfl rfl (by rfl) (fun _ hS => ?_) ?_; rotate_left 1; (focus (have g0 := (hS.cell HE0.out.2).trans HE0.out.1; have g1 := (hS.cell HE1.out.2).trans HE1.out.1; have g2 := (hS.cell HE2.out.2).trans HE2.out.1; have g3 := (hS.cell HE3.out.2).trans HE3.out.1; have g4 := (hS.cell HE4.out.2).trans HE4.out.1; have g5 := (hS.cell HE5.out.2).trans HE5.out.1; have g6 := (hS.cell HE6.out.2).trans HE6.out.1; have g7 := (hS.cell HE7.out.2).trans HE7.out.1; clear hS; go_simp; with_reducible rfl)); simp only [List.setIfInBounds_toArray, List.set_cons_zero, List.set_cons_succ])
      refine Lex.lex_do rfl ?_
      go_wp2_with fail
      refine Lex.lexQ_normal (fun _ => HBY.out) ?_
      refine Lex.lex_do rfl ?_
      go_wp2_with fail
      refine Lex.lexQ_normal (fun _ => HBY.out) ?_
      refine Lex.lex_do rfl ?_
      go_wp2_with fail
      refine Lex.lexQ_normal (fun _ => HBY.out) ?_
      refine Lex.lex_nil ?_
      have HWY := Lib.hid (HWX.out.trans (HBY.out.mono HWX.out.size))
      have HRY := Lib.hid (HR.out.trans ((HBX.out.trans (HBY.out.mono HBX.out.size)).mono HR.out.size))
      clear hb0 hw0 hny HE0 HE1 HE2 HE3 HE4 HE5 HE6 HE7
      rcases hcn with ⟨rfl, rfl⟩ | ⟨rfl, rfl | rfl⟩
      · go_wp2
        go_roundw
        case rel => exact ⟨j + 1, by omega, by go_num, HRY.out⟩
        case measure => simp [intOf]; omega
      · go_wp2
        go_roundw
        case rel => exact ⟨j + 1, by omega, by go_num, HRY.out⟩
        case measure => simp [intOf]; omega
      · go_wp2
        go_roundw
        case rel => exact ⟨j + 1, by omega, by go_num, HRY.out⟩
        case measure => simp [intOf]; omega
    · obtain rfl : j = 4 := by omega
      have cl := HL.out wr HWR.out
      go_wp2_with fail
      refine cl.mono ?_
      rintro e W12 ⟨rfl, hn12⟩
      have HW12 := Lib.hid (HWR.out.trans (hn12.mono HWR.out.size))
      clear cl hn12
      go_wp2
      go_ret
      exact ⟨rfl, HW12.out⟩
end Go.Proofs.YtobpacebpiabcaaGreatDoor
