/- terms' Text, ref's Parse: contracts (printed by expand.py). -/
import Derived.Test.YtobpacebpiabcaaDoorFh
import Derived.Test.YtobpacebpiabcaaDoorFi
import Derived.Test.YtobpacebpiabcaaDoorFb
import Derived.Test.YtobpacebpiabcaaDoorCf
import Derived.Test.YtobpacebpiabcaaDoorBn
import Derived.Test.YtobpacebpiabcaaDoorDg
namespace Go.Proofs.YtobpacebpiabcaaDoor
open Go.RowKit Go.Lib

set_option maxHeartbeats 6400000 in
/-- terms.Text of a valid term. -/
theorem termstext_any {S : Nat → Prop} {w : World} {v : Value} {t : Tm} {B0 : Nat} (h : TmV S w v t) (ho : t.ok = true) (hL : LibOk B0 w) : Calls Tryd.prog 28 #[v] w (RetW (.tuple #[.string ⟨t.tx.toArray⟩, .int .i64 0]) w) := by
  obtain ⟨ku, rfl, hku⟩ := h
  obtain ⟨A, m, c, rfl, -⟩ := hku.open'
  have hsh : t.fo.shp = true := by have h := Tm.ok_shp ho; rw [fo_shp, h.1, h.2.1]; rfl
  have hf : t.fo.fit := Fo.shp_fit _ hsh
  have hcn : t.fo.cnt ≤ 5000 := by have h := (Tm.ok_shp ho).2.2; rw [fo_cnt]; omega
  obtain ⟨W3, hW3⟩ : ∃ W3, W3 = w.alloc (.cells #[.int .i64 t.1, .string ⟨t.2.1.toArray⟩, .int .i64 t.2.2.1, .slice A m c] 26) := ⟨_, rfl⟩
  have hB : Below w.heap.size w W3 := by rw [hW3]; exact (Below.refl _ _).alloc (Nat.le_refl _) _
  have HB := Lib.hid hB
  have HX := Lib.hid (show Blk W3 w.heap.size #[.int .i64 t.1, .string ⟨t.2.1.toArray⟩, .int .i64 t.2.2.1, .slice A m c] 26 by rw [hW3]; exact Blk.new _ _ _)
  have cv := valid_one (_w := w) (hku.below hB) hf 26
  rw [ho] at cv
  have HTX := Lib.hid (show ∀ W, Below w.heap.size w W → Calls Tryd.prog 48 #[.agg #[.int .i64 t.1, .string ⟨t.2.1.toArray⟩, .int .i64 t.2.2.1, .slice A m c]] W (RetW (.string ⟨t.tx.toArray⟩) W) from fun W hb => text_any _ t S _ W B0 (Nat.lt_succ_self _) ⟨_, rfl, hku.below hb⟩ hsh hcn (hL.below hb))
  have HPO := Lib.hid (show ∀ w', Below w.heap.size w w' → RetW (.tuple #[.string ⟨t.tx.toArray⟩, .int .i64 0]) w (.returned (.tuple #[.string ⟨t.tx.toArray⟩, .int .i64 0])) w' from fun w' h => ⟨rfl, h⟩)
  generalize hPost : RetW (.tuple #[.string ⟨t.tx.toArray⟩, .int .i64 0]) w = Post at *
  generalize t.tx = tx at *
  clear hPost hku hf hB ho hsh hcn hL
  generalize t.1 = kk at *
  generalize t.2.1 = knm at *
  generalize t.2.2.1 = kn at *
  have k0 := HX.out.cell 0
  have k1 := HX.out.cell 1
  have k2 := HX.out.cell 2
  have k3 := HX.out.cell 3
  have HW4 := Lib.hid (show Below w.heap.size w (W3.alloc (.cells #[.int .i64 kk, .string ⟨knm.toArray⟩, .int .i64 kn, .slice A m c] 26)) from HB.out.alloc HB.out.size _)
  have HR4 := Lib.hid (show Below W3.heap.size W3 (W3.alloc (.cells #[.int .i64 kk, .string ⟨knm.toArray⟩, .int .i64 kn, .slice A m c] 26)) from (Below.refl _ _).alloc (Nat.le_refl _) _)
  go_enter Tryd.func28, Tryd.ntmps28
  go_upto_region 1 with fail
  rw [← hW3]
  clear hW3
  go_wp2_with fail
  refine cv.mono ?_
  rintro e W5 ⟨rfl, hn5⟩
  have HW5 := Lib.hid (HW4.out.trans (hn5.mono HW4.out.size))
  have hx5 := HX.out.below (HR4.out.trans (hn5.mono HR4.out.size))
  have ct := HTX.out W5 HW5.out
  clear cv hn5 k0 k1 k2 k3
  have k0 := hx5.cell 0
  have k1 := hx5.cell 1
  have k2 := hx5.cell 2
  have k3 := hx5.cell 3
  clear hx5
  go_wp2_with fail
  refine ct.mono ?_
  rintro e W6 ⟨rfl, hn6⟩
  have HW6 := Lib.hid (HW5.out.trans (hn6.mono HW5.out.size))
  clear ct hn6
  go_wp2
  exact HPO.out _ HW6.out

/-! What the document's reader reads is not larger than the text. -/
theorem digs_val : ∀ (q u : Nat) (s : List UInt8), ∃ u' : Nat, (digs q (u : Int) s).1 = (u' : Int) ∧ u' < (u + 1) * 10 ^ q
  | 0, u, s => ⟨u, rfl, by simp⟩
  | q + 1, u, [] => ⟨u, rfl, by
    have h := Nat.pow_pos (n := q + 1) (show 0 < 10 by omega)
    exact Nat.lt_of_lt_of_le (Nat.lt_succ_self u) (Nat.le_mul_of_pos_right _ h)⟩
  | q + 1, u, c :: s => by
    by_cases hc : digB c = true
    · have hd : 48 ≤ c.toNat ∧ c.toNat ≤ 57 := by simpa only [digB, Bool.and_eq_true, decide_eq_true_eq] using hc
      obtain ⟨u', h1, h2⟩ := digs_val q (10 * u + (c.toNat - 48)) s
      refine ⟨u', ?_, ?_⟩
      · rw [digs_more _ _ _ _ hc, ← h1]
        congr 2
        omega
      · have h3 := Nat.mul_le_mul_right (10 ^ q) (show 10 * u + (c.toNat - 48) + 1 ≤ (u + 1) * 10 by omega)
        rw [Nat.pow_succ, Nat.mul_comm (10 ^ q) 10, ← Nat.mul_assoc]
        exact Nat.lt_of_lt_of_le h2 h3
    · refine ⟨u, ?_, ?_⟩
      · rw [digs, if_neg hc]
      · have h := Nat.pow_pos (n := q + 1) (show 0 < 10 by omega)
        exact Nat.lt_of_lt_of_le (Nat.lt_succ_self u) (Nat.le_mul_of_pos_right _ h)
theorem two2_kind {s r : List UInt8} {k : Int} (h : two2 s = some (k, r)) : 0 ≤ k ∧ k ≤ 10 := by
  unfold two2 at h
  repeat' split at h
  all_goals (cases h <;> omega)
theorem one2_kind {s r : List UInt8} {k : Int} (h : one2 s = some (k, r)) : 0 ≤ k ∧ k ≤ 10 ∧ r.length + 1 ≤ s.length := by
  have main : ∀ (w : List UInt8) (n : Nat), begB s w = true → 1 ≤ w.length → n = w.length → (s.drop n).length + 1 ≤ s.length := fun w n hb hw hn => by
    obtain ⟨x, e⟩ := beg_eq hb
    rw [List.length_drop, e, List.length_append]; omega
  unfold one2 at h
  repeat' split at h
  all_goals (cases h <;> exact ⟨by omega, by omega, main _ _ (by assumption) (by decide) (by decide)⟩)
theorem fit_mk {k n : Int} {nm : List UInt8} {ks : Fo} (h1 : -9223372036854775808 ≤ k ∧ k ≤ 9223372036854775807) (h2 : nm.length ≤ 10000) (h3 : -9223372036854775808 ≤ n ∧ n ≤ 9223372036854775807) (h4 : ks.fit) : (Tm.fo (k, nm, n, ks)).fit := ⟨h1, h2, h3, h4, trivial⟩
theorem rt_fit : ∀ (m : Nat) (s : List UInt8) (t : Tm) (rest : List UInt8), rt m s = some (t, rest) → t.fo.fit ∧ t.fo.cnt + rest.length ≤ s.length
  | 0, s, t, rest, h => by rw [rt] at h; cases h
  | m + 1, s, t, rest, h => by
    cases hb : begB s [40] with
    | true =>
      obtain ⟨x0, e0⟩ := beg_eq hb
      have hs1 : 1 ≤ s.length := by rw [e0]; simp
      cases h1 : rt m (s.drop 1) with
      | none => rw [rt_br0 hb h1] at h; cases h
      | some x =>
        obtain ⟨a, r1⟩ := x
        obtain ⟨f1, l1⟩ := rt_fit m _ _ _ h1
        rw [List.length_drop] at l1
        cases h2 : two2 r1 with
        | none => rw [rt_br1 hb h1 h2] at h; cases h
        | some y =>
          obtain ⟨k, r2⟩ := y
          have l2 := two2_len h2
          have k2 := two2_kind h2
          cases h3 : rt m r2 with
          | none => rw [rt_br2 hb h1 h2 h3] at h; cases h
          | some z =>
            obtain ⟨b, left⟩ := z
            obtain ⟨f3, l3⟩ := rt_fit m _ _ _ h3
            cases h4 : begB left [41] with
            | false => rw [rt_br3 hb h1 h2 h3 h4] at h; cases h
            | true =>
              obtain ⟨x4, e4⟩ := beg_eq h4
              have hl1 : 1 ≤ left.length := by rw [e4]; simp
              rw [rt_br hb h1 h2 h3 h4] at h
              injection h with h
              injection h with h5 h6
              subst h5 h6
              refine ⟨fit_mk (k := k) (nm := []) (n := 0) (ks := .cons a.1 a.2.1 a.2.2.1 a.2.2.2 b.fo) (by omega) (by simp) (by omega) ⟨f1.1, f1.2.1, f1.2.2.1, f1.2.2.2.1, f3⟩, ?_⟩
              have hc : (twoT k a b).fo.cnt = a.fo.cnt + b.fo.cnt + 1 := by
                simp [twoT, Tm.fo, Fo.cnt]
                try omega
              rw [hc, List.length_drop]
              omega
    | false =>
      cases h1 : one2 s with
      | some y =>
        obtain ⟨k, r⟩ := y
        have l1 := one2_kind h1
        cases h2 : rt m r with
        | none => rw [rt_one0 hb h1 h2] at h; cases h
        | some x =>
          obtain ⟨a, r1⟩ := x
          obtain ⟨f2, l2⟩ := rt_fit m _ _ _ h2
          rw [rt_one hb h1 h2] at h
          injection h with h
          injection h with h5 h6
          subst h5 h6
          refine ⟨fit_mk (k := k) (nm := []) (n := 0) (ks := a.fo) (by omega) (by simp) (by omega) f2, ?_⟩
          have hc : (oneT k 0 a).fo.cnt = a.fo.cnt + 1 := rfl
          rw [hc]
          omega
      | none =>
        cases h2 : begB s (wWithin ++ sp) with
        | true =>
          have l1 := digs_len 8 0 (s.drop 7)
          obtain ⟨u', v1, v2⟩ := digs_val 8 0 (s.drop 7)
          obtain ⟨x0, e0⟩ := beg_eq h2
          have hs7 : 7 ≤ s.length := by rw [e0, List.length_append]; simp [wWithin, sp]
          rw [List.length_drop] at l1
          cases h3 : begB (digs 8 0 (s.drop 7)).2 sp with
          | false => rw [rt_within0 hb h1 h2 h3] at h; cases h
          | true =>
            cases h4 : rt m ((digs 8 0 (s.drop 7)).2.drop 1) with
            | none => rw [rt_within1 hb h1 h2 h3 h4] at h; cases h
            | some x =>
              obtain ⟨a, r1⟩ := x
              obtain ⟨f2, l2⟩ := rt_fit m _ _ _ h4
              rw [List.length_drop] at l2
              rw [rt_within hb h1 h2 h3 h4] at h
              injection h with h
              injection h with h5 h6
              subst h5 h6
              have v3 : (digs 8 0 (s.drop 7)).1 = (u' : Int) := v1
              have v4 : u' < 100000000 := v2
              refine ⟨fit_mk (k := 10) (nm := []) (n := (digs 8 0 (s.drop 7)).1) (ks := a.fo) (by omega) (by simp) (by rw [v3]; omega) f2, ?_⟩
              have hc : (oneT 10 (digs 8 0 (s.drop 7)).1 a).fo.cnt = a.fo.cnt + 1 := rfl
              rw [hc]
              omega
        | false =>
          rw [rt_word hb h1 h2] at h
          have htl : (tw s).length ≤ s.length := (List.takeWhile_sublist _).length_le
          by_cases ht : tw s = wTrue
          · rw [if_pos ht] at h
            rw [ht] at htl
            injection h with h
            injection h with h5 h6
            subst h5 h6
            refine ⟨⟨by decide, by decide, by decide, trivial, trivial⟩, ?_⟩
            have hc : yesT.fo.cnt = 1 := rfl
            have h4 : wTrue.length = 4 := rfl
            rw [hc, List.length_drop]
            omega
          · rw [if_neg ht] at h
            cases hn : isName (tw s) with
            | false => rw [hn] at h; cases h
            | true =>
              rw [hn, if_pos rfl] at h
              have hl : 1 ≤ (tw s).length ∧ (tw s).length ≤ 12 := by
                unfold isName at hn
                simp only [Bool.and_eq_true, decide_eq_true_eq] at hn
                omega
              injection h with h
              injection h with h5 h6
              subst h5 h6
              refine ⟨fit_mk (k := 2) (nm := tw s) (n := 0) (ks := .nil) (by omega) (by omega) (by omega) trivial, ?_⟩
              show (0 + 0 + 1) + _ ≤ _
              rw [List.length_drop]
              omega
end Go.Proofs.YtobpacebpiabcaaDoor
