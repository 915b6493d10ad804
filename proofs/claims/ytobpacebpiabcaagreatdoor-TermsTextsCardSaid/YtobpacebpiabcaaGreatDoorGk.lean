/- The marks of a term are the same row by both ways; the law's same; Text, Marks and Short of terms that are not valid (printed by expand.py). -/
import Derived.Test.YtobpacebpiabcaaGreatDoorPkGd
import Derived.Test.YtobpacebpiabcaaGreatDoorDk
import Derived.Test.YtobpacebpiabcaaGreatDoorGh
import Derived.Lib.SlicesCompact
import Derived.Sort.Walk0
namespace Go.Proofs.YtobpacebpiabcaaGreatDoor
open Go.RowKit Go.Lib

abbrev Rise (l : List (List UInt8)) : Prop := l.Pairwise (· < ·)
theorem rise_eq : ∀ (l m : List (List UInt8)), Rise l → Rise m → (∀ x, x ∈ l ↔ x ∈ m) → l = m
  | [], [], _, _, _ => rfl
  | [], b :: m, _, _, h => absurd ((h b).2 (by simp)) (by simp)
  | a :: l, [], _, _, h => absurd ((h a).1 (by simp)) (by simp)
  | a :: l, b :: m, h1, h2, h => by
    obtain ⟨h3, h4⟩ := List.pairwise_cons.1 h1
    obtain ⟨h5, h6⟩ := List.pairwise_cons.1 h2
    have e : a = b := by
      rcases List.mem_cons.1 ((h a).1 (by simp)) with q | q
      · exact q
      · rcases List.mem_cons.1 ((h b).2 (by simp)) with r | r
        · exact r.symm
        · exact absurd (h5 a q) (List.lt_asymm (h3 b r))
    subst e
    rw [rise_eq l m h4 h6 fun x => ?_]
    constructor
    · intro hx
      rcases List.mem_cons.1 ((h x).1 (by simp [hx])) with q | q
      · subst q; exact absurd (h3 x hx) (List.lt_irrefl x)
      · exact q
    · intro hx
      rcases List.mem_cons.1 ((h x).2 (by simp [hx])) with q | q
      · subst q; exact absurd (h5 x hx) (List.lt_irrefl x)
      · exact q
theorem get_arr (l : List (List UInt8)) (j : Nat) (hj : j < l.length) : l.toArray[j]! = l[j] := by simp [getElem!_pos, hj]
theorem compact_rise (l : List (List UInt8)) (h : l.Pairwise (· ≤ ·)) : Rise (Lib.compact l) := by
  have main : ∀ m, m ≤ l.length → Rise (Lib.compactUpTo l.toArray m) ∧ ∀ x ∈ Lib.compactUpTo l.toArray m, ∃ j, ∃ hj : j < l.length, j < m ∧ x = l[j] := by
    intro m
    induction m with
    | zero => intro _; exact ⟨by simp [Lib.compactUpTo], fun x hx => by simp [Lib.compactUpTo] at hx⟩
    | succ m ih =>
      intro hm
      obtain ⟨h1, h2⟩ := ih (by omega)
      rw [Lib.compactUpTo_succ]
      split
      · rename_i hk
        rw [get_arr l m (by omega)]
        refine ⟨List.pairwise_append.2 ⟨h1, by simp, fun x hx y hy => ?_⟩, fun x hx => ?_⟩
        · have hy' : y = l[m] := by simpa using hy
          subst hy'
          obtain ⟨j, hj, hjm, rfl⟩ := h2 x hx
          simp only [Lib.keeps, decide_eq_true_eq] at hk
          rcases hk with hk | hk
          · omega
          · rw [get_arr l m (by omega), get_arr l (m - 1) (by omega)] at hk
            have e1 : l[j] ≤ l[m - 1] := by
              by_cases e : j = m - 1
              · subst e; exact List.le_refl _
              · exact List.pairwise_iff_getElem.1 h j (m - 1) hj (by omega) (by omega)
            have e2 : l[m - 1] ≤ l[m] := List.pairwise_iff_getElem.1 h (m - 1) m (by omega) (by omega) (by omega)
            have e3 : l[m - 1] < l[m] := Std.lt_of_le_of_ne e2 (Ne.symm hk)
            exact Std.lt_of_le_of_lt e1 e3
        · rcases List.mem_append.1 hx with q | q
          · obtain ⟨j, hj, hjm, e⟩ := h2 x q
            exact ⟨j, hj, by omega, e⟩
          · have : x = l[m] := by simpa using q
            exact ⟨m, by omega, by omega, this⟩
      · rw [List.append_nil]
        exact ⟨h1, fun x hx => by obtain ⟨j, hj, hjm, e⟩ := h2 x hx; exact ⟨j, hj, by omega, e⟩⟩
  exact (main l.length (Nat.le_refl _)).1
theorem sort_rise (l : List (List UInt8)) : (l.mergeSort fun x y => decide (x ≤ y)).Pairwise (· ≤ ·) := by
  have := List.pairwise_mergeSort (le := fun x y : List UInt8 => decide (x ≤ y)) (fun a b c h1 h2 => by
    simp only [decide_eq_true_eq] at *; exact List.le_trans h1 h2) (fun a b => by
    simp only [Bool.or_eq_true, decide_eq_true_eq]; exact List.le_total a b) l
  exact this.imp fun h => by simpa using h
theorem insM_rise {out : List (List UInt8)} {x : List UInt8} (h : Rise out) : Rise (insM out x) := by
  unfold insM
  split
  · exact h
  · rename_i hne
    have hp := posM_le out x
    have lo : ∀ a ∈ out.take (posM out x), a < x := fun a ha => by
      obtain ⟨k, hk, e⟩ := List.getElem_of_mem ha
      rw [List.length_take] at hk
      have h1 := posM_lt out x k (by omega)
      rw [bytesLess_eq, decide_eq_true_eq, List.getD_eq_getElem?_getD, List.getElem?_eq_getElem (by omega)] at h1
      rw [List.getElem_take] at e
      rw [← e]; exact h1
    have hi : ∀ b ∈ out.drop (posM out x), x < b := fun b hb => by
      obtain ⟨k, hk, e⟩ := List.getElem_of_mem hb
      rw [List.length_drop] at hk
      rw [List.getElem_drop] at e
      have hlt : posM out x < out.length := by omega
      have h1 := posM_at out x hlt
      rw [bytesLess_eq, decide_eq_false_iff_not, List.getD_eq_getElem?_getD, List.getElem?_eq_getElem hlt] at h1
      have h2 : out[posM out x] ≠ x := fun q => hne (by rw [List.getElem?_eq_getElem hlt, q])
      have h3 : x < out[posM out x] := Std.lt_of_le_of_ne (List.not_lt.1 h1) (Ne.symm h2)
      rw [← e]
      by_cases k0 : k = 0
      · subst k0; exact h3
      · exact List.lt_trans h3 (List.pairwise_iff_getElem.1 h _ _ hlt (by omega) (by omega))
    refine List.pairwise_append.2 ⟨List.pairwise_append.2 ⟨h.sublist (List.take_sublist _ _), by simp, fun a ha b hb => ?_⟩, h.sublist (List.drop_sublist _ _), fun a ha b hb => ?_⟩
    · have : b = x := by simpa using hb
      rw [this]; exact lo a ha
    · rcases List.mem_append.1 ha with q | q
      · exact List.lt_trans (lo a q) (hi b hb)
      · have : a = x := by simpa using q
        rw [this]; exact hi b hb
theorem mkM_rise (l : List (List UInt8)) : Rise (mkM l) := by
  have h : ∀ (l out : List (List UInt8)), Rise out → Rise (l.foldl insM out) := by
    intro l
    induction l with
    | nil => intro out h; exact h
    | cons x r ih => intro out h; rw [List.foldl_cons]; exact ih _ (insM_rise h)
  exact h l [] List.Pairwise.nil
theorem rm_marks (t : Tm) : t.rm = marksM t := rise_eq _ _ (mkM_rise _) (compact_rise _ (sort_rise _)) fun x => (mem_rm t x).trans (marksM_mem t x).symm
theorem take_eq_next {l m : List (List UInt8)} {k : Nat} (hl : k < l.length) (hm : k < m.length) (h : l.take k = m.take k) (he : l.getD k [] = m.getD k []) : l.take (k + 1) = m.take (k + 1) := by
  rw [List.take_succ_eq_append_getElem hl, List.take_succ_eq_append_getElem hm, h]
  rw [List.getD_eq_getElem?_getD, List.getD_eq_getElem?_getD, List.getElem?_eq_getElem hl, List.getElem?_eq_getElem hm] at he
  simp at he
  rw [he]
set_option maxHeartbeats 3200000 in
theorem lawsame_any {u v : Value} {l m : List (List UInt8)} {w : World} (hu : StrV w u l) (hv : StrV w v m) : Calls Tryz.prog 33 #[u, v] w (RetW (.bool (decide (l = m))) w) := by
  obtain ⟨A, c, rfl, hc, hm, -, hA⟩ := hu
  obtain ⟨A2, c2, rfl, hc2, hm2, -, hA2⟩ := hv
  have HU := Lib.hid (fun j (hj : j < l.length) => hA.getD hj)
  have HV := Lib.hid (fun j (hj : j < m.length) => hA2.getD hj)
  have HNE := Lib.hid (fun h : l.length ≠ m.length => (show decide (l = m) = false from decide_eq_false fun e => h (by rw [e])))
  have HST := Lib.hid (fun k (h1 : k < l.length) (h2 : k < m.length) h3 h4 => take_eq_next h1 h2 h3 h4)
  have HEQ := Lib.hid (fun (h1 : l.take l.length = m.take l.length) (h2 : l.length = m.length) => (show decide (l = m) = true from decide_eq_true (by rw [List.take_length, h2, List.take_length] at h1; exact h1)))
  have HNO := Lib.hid (fun k (h : l.getD k [] ≠ m.getD k []) => (show decide (l = m) = false from decide_eq_false fun e => h (by rw [e])))
  obtain ⟨n, hn⟩ : ∃ n, l.length = n := ⟨_, rfl⟩
  obtain ⟨n2, hn2⟩ : ∃ n, m.length = n := ⟨_, rfl⟩
  rw [hn] at HU hc ⊢
  rw [hn2] at HV hc2 ⊢
  have HN := Lib.hid hn
  have HN2 := Lib.hid hn2
  unfold maxLen at hm hm2
  generalize decide (l = m) = r at *
  clear hn hn2 hA hA2
  by_cases hnn : n = n2
  rotate_left
  · have HR := Lib.hid (HNE.out (by rw [HN.out, HN2.out]; exact hnn))
    have dn : (n != n2) = true := by rw [bne_iff_ne]; exact hnn
    have dn2 : ((n : Int) != (n2 : Int)) = true := by rw [bne_iff_ne]; omega
    clear HU HV HNE HST HEQ HNO
    go_enter Tryz.func33, Tryz.ntmps33
    go_wp2
    go_ret
    exact ⟨by rw [HR.out]; rfl, Below.refl _ _⟩
  subst hnn
  clear HNE
  go_enter Tryz.func33, Tryz.ntmps33
  go_wp2
  go_loopw [5] (fun i wr => ∃ k : Nat, k ≤ n ∧ i = .int .i64 k ∧ l.take k = m.take k ∧ Below w.heap.size w wr) (fun i _ => n - (intOf i).toNat)
  case atStart => exact ⟨0, Nat.zero_le _, rfl, by simp, Below.refl _ _⟩
  case round =>
    obtain ⟨k, hk, rfl, htk, hbw⟩ := hrel
    have HB := Lib.hid hbw
    have HTK := Lib.hid htk
    clear hbw htk
    by_cases hlt : k < n
    · obtain ⟨b1, o1, rfl, hl1, hc1⟩ := HU.out k hlt
      obtain ⟨b2, o2, rfl, hl2, hc2'⟩ := HV.out k hlt
      have HC0 := Lib.hid (And.intro ((HB.out.cell (p := ⟨b1, o1 + k, none⟩) hl1).trans hc1) (Nat.lt_of_lt_of_le hl1 HB.out.size))
      have HC1 := Lib.hid (And.intro ((HB.out.cell (p := ⟨b2, o2 + k, none⟩) hl2).trans hc2') (Nat.lt_of_lt_of_le hl2 HB.out.size))
      have hst := HST.out k (by rw [HN.out]; exact hlt) (by rw [HN2.out]; exact hlt) HTK.out
      have hno := HNO.out k
      generalize l.getD k [] = x at *
      generalize m.getD k [] = y at *
      have HS2 := Lib.hid hst
      have HN3 := Lib.hid hno
      clear hst hno hc1 hc2' HU HV HST HEQ HNO
      go_upto_region 6 with fail
      by_cases hxy : x = y
      · skip
        have e1 : ((⟨x.toArray⟩ : ByteArray) != ⟨y.toArray⟩) = false := by show (!((⟨x.toArray⟩ : ByteArray) == ⟨y.toArray⟩)) = false; rw [ba_eq]; simp [hxy]
        have e2 : ((⟨x.toArray⟩ : ByteArray) == ⟨y.toArray⟩) = true := by rw [ba_eq]; simp [hxy]
        have e3 : (x == y) = true := by simp [hxy]
        have e4 : (x != y) = false := by simp [hxy]
        refine Lex.wp_region_lex (fun w' => Below wr.heap.size wr w') (fun _ => true)
          [(0, true), (1, true), (2, true), (3, true), (4, true), (5, true), (6, true), (7, true), (8, true)]
          (by kernel_rfl) (by kernel_rfl) (by kernel_rfl) (by kernel_rfl) ⟨rfl, rfl, rfl, Nat.le_refl _, fun _ _ => rfl⟩ ?_
        have hb0 : Below wr.heap.size wr wr.drew := ⟨rfl, rfl, rfl, Nat.le_refl _, fun _ _ => rfl⟩
        have hw0 : Below w.heap.size w wr.drew := ⟨HB.out.os, HB.out.tape, HB.out.output, HB.out.size, HB.out.block⟩
        generalize hV0 : wr.drew = V0 at *
        clear hV0
        iterate 9 (refine Lex.lex_take (v := ?_) rfl rfl (by rfl) (fun _ hS => ?_) ?_; rotate_left 1; (focus (have g0 := (hS.cell HC0.out.2).trans HC0.out.1; have g1 := (hS.cell HC1.out.2).trans HC1.out.1; clear hS; go_simp; with_reducible rfl)); simp only [List.setIfInBounds_toArray, List.set_cons_zero, List.set_cons_succ])
        refine Lex.lex_nil ?_
        clear e1 e2 e3 e4
        go_wp2
        go_roundw
        case rel => exact ⟨k + 1, by omega, by go_num, HS2.out hxy, hw0⟩
        case measure => simp [intOf]; omega
      · skip
        have e1 : ((⟨x.toArray⟩ : ByteArray) != ⟨y.toArray⟩) = true := by show (!((⟨x.toArray⟩ : ByteArray) == ⟨y.toArray⟩)) = true; rw [ba_eq]; simp [hxy]
        have e2 : ((⟨x.toArray⟩ : ByteArray) == ⟨y.toArray⟩) = false := by rw [ba_eq]; simp [hxy]
        have e3 : (x == y) = false := by simp [hxy]
        have e4 : (x != y) = true := by simp [hxy]
        refine Lex.wp_region_lex (fun w' => Below wr.heap.size wr w') (fun _ => true)
          [(0, true), (1, true), (2, true), (3, true), (4, true), (5, true), (6, true), (7, true), (8, true)]
          (by kernel_rfl) (by kernel_rfl) (by kernel_rfl) (by kernel_rfl) ⟨rfl, rfl, rfl, Nat.le_refl _, fun _ _ => rfl⟩ ?_
        have hb0 : Below wr.heap.size wr wr.drew := ⟨rfl, rfl, rfl, Nat.le_refl _, fun _ _ => rfl⟩
        have hw0 : Below w.heap.size w wr.drew := ⟨HB.out.os, HB.out.tape, HB.out.output, HB.out.size, HB.out.block⟩
        generalize hV0 : wr.drew = V0 at *
        clear hV0
        iterate 9 (refine Lex.lex_take (v := ?_) rfl rfl (by rfl) (fun _ hS => ?_) ?_; rotate_left 1; (focus (have g0 := (hS.cell HC0.out.2).trans HC0.out.1; have g1 := (hS.cell HC1.out.2).trans HC1.out.1; clear hS; go_simp; with_reducible rfl)); simp only [List.setIfInBounds_toArray, List.set_cons_zero, List.set_cons_succ])
        refine Lex.lex_nil ?_
        clear e1 e2 e3 e4
        have HR := Lib.hid (HN3.out hxy)
        go_wp2
        go_ret
        exact ⟨by rw [HR.out]; rfl, hw0⟩
    · obtain rfl : n = k := by omega
      have HR := Lib.hid (HEQ.out (by rw [HN.out]; exact HTK.out) (by rw [HN.out, HN2.out]))
      clear HU HV HST HEQ HNO
      go_wp2
      go_ret
      exact ⟨by rw [HR.out]; rfl, HB.out⟩
set_option maxHeartbeats 6400000 in
theorem termstext_bad {S : Nat → Prop} {w : World} {v : Value} {t : Tm} (h : TmV S w v t) (hf : t.fo.fit) (ho : t.ok = false) : Calls Tryz.prog 13 #[v] w (RetW (.tuple #[.string ⟨#[]⟩, .int .i64 1]) w) := by
  obtain ⟨ku, rfl, hku⟩ := h
  obtain ⟨A, m, c, rfl, -⟩ := hku.open'
  obtain ⟨W3, hW3⟩ : ∃ W3, W3 = w.alloc (.cells #[.int .i64 t.1, .string ⟨t.2.1.toArray⟩, .int .i64 t.2.2.1, .slice A m c] 26) := ⟨_, rfl⟩
  have hB : Below w.heap.size w W3 := by rw [hW3]; exact (Below.refl _ _).alloc (Nat.le_refl _) _
  have HB := Lib.hid hB
  have HX := Lib.hid (show Blk W3 w.heap.size #[.int .i64 t.1, .string ⟨t.2.1.toArray⟩, .int .i64 t.2.2.1, .slice A m c] 26 by rw [hW3]; exact Blk.new _ _ _)
  have cv := valid_one (_w := w) (hku.below hB) hf 26
  rw [ho] at cv
  clear hku hf hB ho
  generalize t.1 = kk at *
  generalize t.2.1 = knm at *
  generalize t.2.2.1 = kn at *
  have k0 := HX.out.cell 0
  have k1 := HX.out.cell 1
  have k2 := HX.out.cell 2
  have k3 := HX.out.cell 3
  have HW4 := Lib.hid (show Below w.heap.size w (W3.alloc (.cells #[.int .i64 kk, .string ⟨knm.toArray⟩, .int .i64 kn, .slice A m c] 26)) from HB.out.alloc HB.out.size _)
  go_enter Tryz.func13, Tryz.ntmps13
  go_upto_region 1 with fail
  rw [← hW3]
  clear hW3
  go_wp2_with fail
  refine cv.mono ?_
  rintro e W5 ⟨rfl, hn5⟩
  have HW5 := Lib.hid (HW4.out.trans (hn5.mono HW4.out.size))
  clear cv hn5 k0 k1 k2 k3
  go_wp2
  refine bodyPost_ret (v := .tuple #[.string ⟨#[]⟩, .int .i64 1]) ?_ rfl ⟨rfl, HW5.out⟩
  simp [results, Tryz.results13, go_sem]
set_option maxHeartbeats 6400000 in
theorem bigmarks_bad {S : Nat → Prop} {w : World} {v : Value} {t : Tm} (h : TmV S w v t) (hf : t.fo.fit) (ho : t.ok = false) : Calls Tryz.prog 40 #[v] w (RetW (.tuple #[.slice none 0 0, .int .i64 1]) w) := by
  obtain ⟨ku, rfl, hku⟩ := h
  obtain ⟨A, m, c, rfl, -⟩ := hku.open'
  obtain ⟨W3, hW3⟩ : ∃ W3, W3 = w.alloc (.cells #[.int .i64 t.1, .string ⟨t.2.1.toArray⟩, .int .i64 t.2.2.1, .slice A m c] 26) := ⟨_, rfl⟩
  have hB : Below w.heap.size w W3 := by rw [hW3]; exact (Below.refl _ _).alloc (Nat.le_refl _) _
  have HB := Lib.hid hB
  have HX := Lib.hid (show Blk W3 w.heap.size #[.int .i64 t.1, .string ⟨t.2.1.toArray⟩, .int .i64 t.2.2.1, .slice A m c] 26 by rw [hW3]; exact Blk.new _ _ _)
  have cv := valid_one (_w := w) (hku.below hB) hf 26
  rw [ho] at cv
  clear hku hf hB ho
  generalize t.1 = kk at *
  generalize t.2.1 = knm at *
  generalize t.2.2.1 = kn at *
  have k0 := HX.out.cell 0
  have k1 := HX.out.cell 1
  have k2 := HX.out.cell 2
  have k3 := HX.out.cell 3
  have HW4 := Lib.hid (show Below w.heap.size w (W3.alloc (.cells #[.int .i64 kk, .string ⟨knm.toArray⟩, .int .i64 kn, .slice A m c] 26)) from HB.out.alloc HB.out.size _)
  go_enter Tryz.func40, Tryz.ntmps40
  go_upto_region 1 with fail
  rw [← hW3]
  clear hW3
  go_wp2_with fail
  refine cv.mono ?_
  rintro e W5 ⟨rfl, hn5⟩
  have HW5 := Lib.hid (HW4.out.trans (hn5.mono HW4.out.size))
  clear cv hn5 k0 k1 k2 k3
  go_wp2
  refine bodyPost_ret (v := .tuple #[.slice none 0 0, .int .i64 1]) ?_ rfl ⟨rfl, HW5.out⟩
  simp [results, Tryz.results40, go_sem]
set_option maxHeartbeats 6400000 in
theorem bigshort_bad {S : Nat → Prop} {w : World} {v : Value} {t : Tm} (h : TmV S w v t) (hf : t.fo.fit) (ho : t.ok = false) : Calls Tryz.prog 12 #[v] w (RetW (.tuple #[.agg #[.int .i64 0, .string ⟨#[]⟩, .int .i64 0, .slice none 0 0], .int .i64 1]) w) := by
  obtain ⟨ku, rfl, hku⟩ := h
  obtain ⟨A, m, c, rfl, -⟩ := hku.open'
  obtain ⟨R, hR⟩ : ∃ R, w.heap.size + 1 = R := ⟨_, rfl⟩
  have HRE := Lib.hid hR
  obtain ⟨W3, hW3⟩ : ∃ W3, W3 = w.alloc (.cells #[.int .i64 t.1, .string ⟨t.2.1.toArray⟩, .int .i64 t.2.2.1, .slice A m c] 26) := ⟨_, rfl⟩
  have HS3 := Lib.hid (show W3.heap.size = R by rw [← hR, hW3]; simp)
  obtain ⟨W4, hW4⟩ : ∃ W4, W4 = W3.alloc (.cells #[.int .i64 0, .string ⟨#[]⟩, .int .i64 0, .slice none 0 0] 26) := ⟨_, rfl⟩
  have hB : Below w.heap.size w W4 := by rw [hW4, hW3]; exact ((Below.refl _ _).alloc (Nat.le_refl _) _).alloc (by simp) _
  have HB := Lib.hid hB
  have HX := Lib.hid (show Blk W4 w.heap.size #[.int .i64 t.1, .string ⟨t.2.1.toArray⟩, .int .i64 t.2.2.1, .slice A m c] 26 by
    rw [hW4]
    exact Blk.below (w := W3) (by rw [hW3]; exact Blk.new _ _ _) ((Below.refl _ _).alloc (Nat.le_refl _) _))
  have HZ := Lib.hid (show Blk W4 R #[.int .i64 0, .string ⟨#[]⟩, .int .i64 0, .slice none 0 0] 26 by
    rw [hW4, ← HS3.out]; exact Blk.new _ _ _)
  have cv := valid_one (_w := w) (hku.below hB) hf 26
  rw [ho] at cv
  clear hku hf hB ho
  generalize t.1 = kk at *
  generalize t.2.1 = knm at *
  generalize t.2.2.1 = kn at *
  have k0 := HX.out.cell 0
  have k1 := HX.out.cell 1
  have k2 := HX.out.cell 2
  have k3 := HX.out.cell 3
  have HRL := Lib.hid (show w.heap.size ≤ R by omega)
  have HR4 := Lib.hid (show Below W4.heap.size W4 (W4.alloc (.cells #[.int .i64 kk, .string ⟨knm.toArray⟩, .int .i64 kn, .slice A m c] 26)) from (Below.refl _ _).alloc (Nat.le_refl _) _)
  clear hR
  go_enter Tryz.func12, Tryz.ntmps12
  go_upto_region 1 with fail
  rw [← hW3, ← hW4, HRE.out]
  clear hW3 hW4
  go_wp2_with fail
  refine cv.mono ?_
  rintro e W5 ⟨rfl, hn5⟩
  have HN5 := Lib.hid (HR4.out.trans (hn5.mono HR4.out.size))
  have HW6 := Lib.hid (HB.out.trans (HN5.out.mono HB.out.size))
  have HZ6 := Lib.hid (HZ.out.below HN5.out)
  have HE := Lib.hid ((((HZ6.out.set 0 (.int .i64 0)).set 1 (.string ⟨#[]⟩)).set 2 (.int .i64 0)).set 3 (.slice none 0 0))
  have HEB := Lib.hid ((((HW6.out.setCell (p := ⟨R, 0, none⟩) HRL.out (.int .i64 0)).setCell (p := ⟨R, 1, none⟩) HRL.out (.string ⟨#[]⟩)).setCell (p := ⟨R, 2, none⟩) HRL.out (.int .i64 0)).setCell (p := ⟨R, 3, none⟩) HRL.out (.slice none 0 0))
  clear cv hn5 k0 k1 k2 k3
  have z0 := HZ6.out.cell 0
  have z1 := HZ6.out.cell 1
  have z2 := HZ6.out.cell 2
  have z3 := HZ6.out.cell 3
  have g0 := HZ6.out.free 0
  have g1 := HZ6.out.free 1
  have g2 := HZ6.out.free 2
  have g3 := HZ6.out.free 3
  go_wp2
  have r0 := HE.out.cell 0
  have r1 := HE.out.cell 1
  have r2 := HE.out.cell 2
  have r3 := HE.out.cell 3
  refine bodyPost_ret (v := .tuple #[.agg #[.int .i64 0, .string ⟨#[]⟩, .int .i64 0, .slice none 0 0], .int .i64 1]) ?_ rfl ⟨rfl, HEB.out⟩
  simp at r0 r1 r2 r3
  simp [results, Tryz.results12, go_sem, r0, r1, r2, r3]
end Go.Proofs.YtobpacebpiabcaaGreatDoor
