/- ref's term: a word with one kid (printed by expand.py). -/
import Derived.Test.YtobpacebpiabcaaDoorFd
namespace Go.Proofs.YtobpacebpiabcaaDoor
open Go.RowKit Go.Lib
theorem w4_cell {w : World} {B : Nat} {t : TypeId} (h : Blk w B #[.string ⟨#[110, 111, 116, 32]⟩, .string ⟨#[112, 114, 101, 118, 32]⟩, .string ⟨#[111, 110, 99, 101, 32]⟩, .string ⟨#[97, 108, 119, 97, 121, 115, 32]⟩] t) {j : Nat} (hj : j < 4) : w.cell? ⟨B, j, none⟩ = some (.string ⟨(w4 j).toArray⟩) := by
  rw [h.cell]
  have e : j = 0 ∨ j = 1 ∨ j = 2 ∨ j = 3 := by omega
  rcases e with rfl | rfl | rfl | rfl <;> rfl
theorem k4_cell {w : World} {B : Nat} {t : TypeId} (h : Blk w B #[.int .i64 3, .int .i64 6, .int .i64 7, .int .i64 8] t) {j : Nat} (hj : j < 4) : w.cell? ⟨B, j, none⟩ = some (.int .i64 (k4 j)) := by
  rw [h.cell]
  have e : j = 0 ∨ j = 1 ∨ j = 2 ∨ j = 3 := by omega
  rcases e with rfl | rfl | rfl | rfl <;> rfl
set_option maxRecDepth 100000 in
set_option maxHeartbeats 25600000 in
theorem rterm_one (M : Nat) (IH : RTermOk M) (m : Nat) (s : List UInt8) (L : Int) (w : World) (hm : m < M) (hm1 : m ≤ 1000) (hs : s.length ≤ 1000000) (hL : L = ((m + 1 : Nat) : Int)) (hbr : begB s [40] = false) (hone : one2 s ≠ none) : Calls Tryd.prog 49 #[.string ⟨s.toArray⟩, .int .i64 L] w (RetRT (m + 1) s w) := by
  have d0 : decide (L < 1) = false := decide_eq_false (by omega)
  obtain ⟨L1, hL1⟩ : ∃ L1, L - 1 = L1 := ⟨_, rfl⟩
  have u1 : IntKind.i64.wrap (L - 1) = L1 := by rw [IntKind.wrap_i64]; omega
  have HI := Lib.hid (show ∀ (s' : List UInt8) W, s'.length ≤ s.length → Calls Tryd.prog 49 #[.string ⟨s'.toArray⟩, .int .i64 L1] W (RetRT m s' W) from fun s' W h => IH m s' L1 W hm hm1 (by omega) (by omega))
  have HBR := Lib.hid hbr
  have HLE := Lib.hid hs
  have HONE := Lib.hid hone
  clear IH hm hm1 hL hL1 hbr hs hone
  obtain ⟨n, hn⟩ : ∃ n, s.length = n := ⟨_, rfl⟩
  have hz : (⟨s.toArray⟩ : ByteArray).size = n := by show s.toArray.size = _; simpa using hn
  have HN := Lib.hid hn
  have HPN := Lib.hid (show rt (m + 1) s = none → ∀ (k : Int) (nm : List UInt8) (n : Int) (A : Option Addr) (q c : Nat) (r : List UInt8) (e : Ending) (w' : World), e = .returned (.tuple #[.agg #[.int .i64 k, .string ⟨nm.toArray⟩, .int .i64 n, .slice A q c], .string ⟨r.toArray⟩, .bool false]) → Below w.heap.size w w' → RetRT (m + 1) s w e w' from fun h k nm n A q c r e w' h1 h2 => .inr ⟨k, nm, n, A, q, c, r, h, h1, h2⟩)
  have HPS := Lib.hid (show ∀ t rest v (e : Ending) (w' : World), rt (m + 1) s = some (t, rest) → e = .returned (.tuple #[v, .string ⟨rest.toArray⟩, .bool true]) → TmV (fun b => w.heap.size ≤ b) w' v t → Below w.heap.size w w' → RetRT (m + 1) s w e w' from fun t rest v e w' h h1 h2 h3 => .inl ⟨t, rest, v, h, h1, h2, h3⟩)
  generalize hPost : RetRT (m + 1) s w = Post at *
  obtain ⟨W2, hW2⟩ : ∃ W2, W2 = (w.alloc (.cells #[.int .i64 0, .string ⟨#[]⟩, .int .i64 0, .slice none 0 0] 26)).alloc (.cells #[.int .i64 0, .string ⟨#[]⟩, .int .i64 0, .slice none 0 0] 26) := ⟨_, rfl⟩
  have HW2 := Lib.hid (show Below w.heap.size w W2 by rw [hW2]; exact ((Below.refl _ _).alloc (Nat.le_refl _) _).alloc (by simp) _)
  have HZ2 := Lib.hid (show Blk W2 w.heap.size #[.int .i64 0, .string ⟨#[]⟩, .int .i64 0, .slice none 0 0] 26 by rw [hW2]; exact (Blk.new w _ _).below ((Below.refl _ _).alloc (Nat.le_refl _) _))
  obtain ⟨H, hH⟩ : ∃ H, w.heap.size + 1 = H := ⟨_, rfl⟩
  have HH2 := Lib.hid (show Blk W2 H #[.int .i64 0, .string ⟨#[]⟩, .int .i64 0, .slice none 0 0] 26 by
    have h := Blk.new (w.alloc (.cells #[.int .i64 0, .string ⟨#[]⟩, .int .i64 0, .slice none 0 0] 26)) #[.int .i64 0, .string ⟨#[]⟩, .int .i64 0, .slice none 0 0] 26
    rw [show (w.alloc (.cells #[.int .i64 0, .string ⟨#[]⟩, .int .i64 0, .slice none 0 0] 26)).heap.size = H by rw [← hH]; simp, ← hW2] at h
    exact h)
  have HHX := Lib.hid (show w.heap.size < H by omega)
  clear hPost hn
  go_enter Tryd.func49, Tryd.ntmps49
  go_upto_region 2 with fail
  rw [← hW2]
  clear hW2 hH
  have cb : Calls Tryd.prog 70 #[.string ⟨s.toArray⟩, .string ⟨#[40]⟩] W2 (RetV (.bool false) W2) := by
    have h := begins_any s [40] W2
    rw [HBR.out] at h
    exact h
  go_wp2_with fail
  refine cb.mono ?_
  rintro e W2' ⟨rfl, rfl⟩
  clear cb
  obtain ⟨W3, hW3⟩ : ∃ W3, W3 = W2.alloc (.cells #[.string ⟨#[110, 111, 116, 32]⟩, .string ⟨#[112, 114, 101, 118, 32]⟩, .string ⟨#[111, 110, 99, 101, 32]⟩, .string ⟨#[97, 108, 119, 97, 121, 115, 32]⟩] 9) := ⟨_, rfl⟩
  have hb3 : Below W2.heap.size W2 W3 := by rw [hW3]; exact (Below.refl _ _).alloc (Nat.le_refl _) _
  have hv3 : Blk W3 W2.heap.size #[.string ⟨#[110, 111, 116, 32]⟩, .string ⟨#[112, 114, 101, 118, 32]⟩, .string ⟨#[111, 110, 99, 101, 32]⟩, .string ⟨#[97, 108, 119, 97, 121, 115, 32]⟩] 9 := by rw [hW3]; exact Blk.new _ _ _
  obtain ⟨W4, hW4⟩ : ∃ W4, W4 = W3.alloc (.cells #[.int .i64 3, .int .i64 6, .int .i64 7, .int .i64 8] 3) := ⟨_, rfl⟩
  have hb4 : Below W3.heap.size W3 W4 := by rw [hW4]; exact (Below.refl _ _).alloc (Nat.le_refl _) _
  have hb24 := hb3.trans (hb4.mono hb3.size)
  obtain ⟨X5, hX5⟩ : ∃ X5, W2.heap.size + 1 = X5 := ⟨_, rfl⟩
  have HW4C := Lib.hid (show ∀ j, j < 4 → W4.cell? ⟨W2.heap.size, j, none⟩ = some (.string ⟨(w4 j).toArray⟩) from fun j hj => w4_cell (hv3.below hb4) hj)
  have HK4C := Lib.hid (show Blk W4 X5 #[.int .i64 3, .int .i64 6, .int .i64 7, .int .i64 8] 3 from by
    have h : Blk W4 W3.heap.size #[.int .i64 3, .int .i64 6, .int .i64 7, .int .i64 8] 3 := by rw [hW4]; exact Blk.new _ _ _
    rw [show W3.heap.size = X5 by rw [← hX5, hW3]; simp] at h
    exact h)
  have HX5N := Lib.hid (show w.heap.size < X5 from by have := HZ2.out.lt; omega)
  have HW4 := Lib.hid (HW2.out.trans (hb24.mono HW2.out.size))
  have HZ4 := Lib.hid (HZ2.out.below hb24)
  have HH4 := Lib.hid (HH2.out.below hb24)
  clear hv3 hb3 hb4 hb24
  go_upto_region 19 with fail
  rw [← hW3, ← hW4]
  clear hW3 hW4 hX5
  go_wp2
  go_loopw [19] (fun i wr => ∃ j : Nat, j ≤ 4 ∧ i = .int .i64 j ∧ (∀ q, q < j → begB s (w4 q) = false) ∧ W4 = wr) (fun i _ => 4 - (intOf i).toNat)
  case atStart => exact ⟨0, Nat.zero_le _, rfl, fun q hq => by omega, rfl⟩
  case round =>
    obtain ⟨j, hj, rfl, hall, rfl⟩ := hrel
    have HALL := Lib.hid hall
    clear hall
    by_cases hlt : j < 4
    · have cj := HW4C.out j hlt
      have hj3 : (j : Int) < 4 := by omega
      have hj0 : (0 : Int) ≤ (j : Int) := by omega
      have cb := begins_any s (w4 j) W4
      obtain ⟨wd, hwd⟩ : ∃ wd, w4 j = wd := ⟨_, rfl⟩
      have HWD := Lib.hid hwd
      rw [hwd] at cb cj
      clear hwd
      cases hbj : begB s wd with
      | false =>
        have HBJ := Lib.hid hbj
        rw [hbj] at cb
        clear hbj
        go_wp2_with fail
        refine cb.mono ?_
        rintro e w'' ⟨rfl, rfl⟩
        clear cb
        go_wp2
        go_roundw
        case rel => exact ⟨j + 1, by omega, by go_num, fun q hq => by
          by_cases e : q = j
          · subst e; rw [HWD.out]; exact HBJ.out
          · exact HALL.out q (by omega), trivial⟩
        case measure => simp [intOf]; omega
      | true =>
        rw [hbj] at cb
        have HT2 := Lib.hid (show one2 s = some (k4 j, s.drop wd.length) from by rw [← HWD.out]; exact one2_hit hlt HALL.out (by rw [HWD.out]; exact hbj))
        obtain ⟨kl, hkl⟩ : ∃ kl, wd.length = kl := ⟨_, rfl⟩
        have hzw : (⟨wd.toArray⟩ : ByteArray).size = kl := by show wd.toArray.size = _; simpa using hkl
        have hkn : kl ≤ n := by
          obtain ⟨r, e⟩ := beg_eq hbj
          rw [← HN.out, e, List.length_append]; omega
        obtain ⟨s2, hs2⟩ : ∃ s2, s.drop kl = s2 := ⟨_, rfl⟩
        have e2 : (⟨s.toArray⟩ : ByteArray).extract kl n = ⟨s2.toArray⟩ := by rw [← HN.out, ← hs2]; exact ext_drop s kl
        rw [hkl, hs2] at HT2
        have ca2 := HI.out s2 W4 (by rw [← hs2, List.length_drop]; omega)
        have hkn' : (kl : Int) ≤ (n : Int) := by omega
        clear hbj hkl hs2
        go_wp2_with fail
        refine cb.mono ?_
        rintro e w'' ⟨rfl, rfl⟩
        clear cb
        go_wp2_with fail
        refine ca2.mono ?_
        rintro e W5 h5
        clear ca2 e2 cj
        rcases h5 with ⟨a, rest, v, hr, rfl, ⟨u, rfl, hu⟩, hb5⟩ | ⟨ka, kb, kc, Aa, na, ca, rst, hr, rfl, hb5⟩
        · obtain ⟨Aa, na, ca, rfl, -⟩ := hu.open'
          have HRS := Lib.hid (show rt (m + 1) s = some (oneT (k4 j) 0 a, rest) from rt_one HBR.out HT2.out hr)
          have HLO := Lib.hid (show w.heap.size + 1 ≤ W4.heap.size from HZ4.out.lt)
          have HKA := Lib.hid (hu.mono (T := fun b => w.heap.size + 1 ≤ b) (fun b hb _ => Nat.le_trans HLO.out hb))
          have HW5 := Lib.hid (HW4.out.trans (hb5.mono HW4.out.size))
          have HZ5 := Lib.hid (HZ4.out.below hb5)
          have HH5 := Lib.hid (HH4.out.below hb5)
          have HC5 := Lib.hid (HK4C.out.below hb5)
          clear hr hu
          go_upto_region 24 with fail
          obtain ⟨W6, hW6⟩ : ∃ W6, W6 = W5.alloc (.cells #[.int .i64 a.1, .string ⟨a.2.1.toArray⟩, .int .i64 a.2.2.1, .slice Aa na ca] 26) := ⟨_, rfl⟩
          have hb6 : Below W5.heap.size W5 W6 := by rw [hW6]; exact (Below.refl _ _).alloc (Nat.le_refl _) _
          have HV6 := Lib.hid (show Blk W6 W5.heap.size #[.int .i64 a.1, .string ⟨a.2.1.toArray⟩, .int .i64 a.2.2.1, .slice Aa na ca] 26 by rw [hW6]; exact Blk.new _ _ _)
          rw [← hW6]
          clear hW6
          have HW6 := Lib.hid (HW5.out.trans (hb6.mono HW5.out.size))
          have HZ6 := Lib.hid (HZ5.out.below hb6)
          have HH6 := Lib.hid (HH5.out.below hb6)
          have HC6 := Lib.hid (HC5.out.below hb6)
          have HX7N := Lib.hid (show w.heap.size < W5.heap.size from HZ5.out.lt)
          have HKA6 := Lib.hid (HKA.out.below hb6); generalize hka : a.1 = ka at *; generalize hkb : a.2.1 = kb at *; generalize hkc : a.2.2.1 = kc at *; have HTT := Lib.hid (And.intro hka (And.intro hkb hkc)); clear hka hkb hkc
          clear hb5 hb6
          generalize W5.heap.size = X7 at *
          have HLT3 := Lib.hid hlt
          refine Lex.wp_region_lex (fun w' => Blk w' X7 #[.int .i64 ka, .string ⟨kb.toArray⟩, .int .i64 kc, .slice Aa na ca] 26 ∧ Blk w' X5 #[.int .i64 3, .int .i64 6, .int .i64 7, .int .i64 8] 3) (fun _ => true)
            [(0, true), (1, true), (2, true), (3, true), (4, true), (7, true), (8, true), (5, false), (6, true), (9, false), (10, false), (11, false)]
            (by kernel_rfl) (by kernel_rfl) (by kernel_rfl) (by kernel_rfl) ⟨HV6.out, HC6.out⟩ ?_
          have hb0 : Below W6.heap.size W6 W6.drew := ⟨rfl, rfl, rfl, Nat.le_refl _, fun _ _ => rfl⟩
          have hw0 : Below w.heap.size w W6.drew := ⟨HW6.out.os, HW6.out.tape, HW6.out.output, HW6.out.size, HW6.out.block⟩
          generalize hV0 : W6.drew = V0 at *
          clear hV0
          iterate 7 (refine Lex.lex_take (v := ?_) rfl rfl (by rfl) (fun _ hS => ?_) ?_; rotate_left 1; (focus (have g0 := hS.1.cell 0; have g1 := hS.1.cell 1; have g2 := hS.1.cell 2; have g3 := hS.1.cell 3; have gk := k4_cell hS.2 HLT3.out; clear hS; go_simp; with_reducible rfl)); simp only [List.setIfInBounds_toArray, List.set_cons_zero, List.set_cons_succ])
          refine Lex.lex_do rfl ?_
          go_wp2_with fail
          refine Lex.lexQ_normal (fun _ => ⟨HV6.out.below (hb0.alloc hb0.size _), HC6.out.below (hb0.alloc hb0.size _)⟩) ?_
          refine Lex.lex_take (v := ?_) rfl rfl (by rfl) (fun _ hS => ?_) ?_; rotate_left 1; (focus (have g0 := hS.1.cell 0; have g1 := hS.1.cell 1; have g2 := hS.1.cell 2; have g3 := hS.1.cell 3; have gk := k4_cell hS.2 HLT3.out; clear hS; go_simp; with_reducible rfl)); simp only [List.setIfInBounds_toArray, List.set_cons_zero, List.set_cons_succ]
          refine Lex.lex_do rfl ?_
          obtain ⟨W9, hW9⟩ : ∃ W9, W9 = V0.alloc (.cells #[.int .i64 ka, .string ⟨kb.toArray⟩, .int .i64 kc, .slice Aa na ca] 26) := ⟨_, rfl⟩
          have hb9 : Below V0.heap.size V0 W9 := by rw [hW9]; exact (Below.refl _ _).alloc (Nat.le_refl _) _
          have HW9 := Lib.hid (hw0.trans (hb9.mono hw0.size))
          have HZ9 := Lib.hid ((HZ6.out.below hb0).below hb9)
          have HK9 := Lib.hid (show KidsV (fun b => w.heap.size + 1 ≤ b) W9 (.slice (some ⟨V0.heap.size, 0, none⟩) 1 1) a.fo by have h := kidsV_one' (t := a) 26 (HKA6.out.below hb0) (by have := HZ6.out.lt; have := hb0.size; omega); rw [HTT.out.1, HTT.out.2.1, HTT.out.2.2, ← hW9] at h; exact h)
          have HSF := Lib.hid (show Blk (set4 W9 w.heap.size (.int .i64 (k4 j)) (.string ⟨#[]⟩) (.int .i64 0) (.slice (some ⟨V0.heap.size, 0, none⟩) 1 1)) X7 #[.int .i64 ka, .string ⟨kb.toArray⟩, .int .i64 kc, .slice Aa na ca] 26 ∧ Blk (set4 W9 w.heap.size (.int .i64 (k4 j)) (.string ⟨#[]⟩) (.int .i64 0) (.slice (some ⟨V0.heap.size, 0, none⟩) 1 1)) X5 #[.int .i64 3, .int .i64 6, .int .i64 7, .int .i64 8] 3 from ⟨blk_set4Oth ((HV6.out.below hb0).below hb9) (Ne.symm (Nat.ne_of_lt HX7N.out)) _ _ _ _, blk_set4Oth ((HC6.out.below hb0).below hb9) (Ne.symm (Nat.ne_of_lt HX5N.out)) _ _ _ _⟩)
          rw [← hW9]
          clear hW9 hb9
          generalize V0.heap.size = BS at *
          have z0 := HZ9.out.cell 0
          have z1 := HZ9.out.cell 1
          have z2 := HZ9.out.cell 2
          have z3 := HZ9.out.cell 3
          have g0 := HZ9.out.free 0
          have g1 := HZ9.out.free 1
          have g2 := HZ9.out.free 2
          have g3 := HZ9.out.free 3
          go_wp2_with fail
          refine Lex.lexQ_normal (fun _ => HSF.out) ?_
          refine Lex.lex_do rfl ?_
          go_wp2_with fail
          refine Lex.lexQ_normal (fun _ => HSF.out) ?_
          refine Lex.lex_do rfl ?_
          go_wp2_with fail
          refine Lex.lexQ_normal (fun _ => HSF.out) ?_
          refine Lex.lex_nil ?_
          have HE := Lib.hid (HZ9.out.set4 (.int .i64 (k4 j)) (.string ⟨#[]⟩) (.int .i64 0) (.slice (some ⟨BS, 0, none⟩) 1 1))
          have HEB := Lib.hid (below_set4' HW9.out (Nat.le_refl _) (.int .i64 (k4 j)) (.string ⟨#[]⟩) (.int .i64 0) (.slice (some ⟨BS, 0, none⟩) 1 1))
          have HKE := Lib.hid ((HK9.out.set4 (B := w.heap.size) (fun b hb e => by omega) (.int .i64 (k4 j)) (.string ⟨#[]⟩) (.int .i64 0) (.slice (some ⟨BS, 0, none⟩) 1 1)).mono (T := fun b => w.heap.size ≤ b) (fun b hb _ => by omega))
          go_wp2
          have r0 := HE.out.cell 0
          have r1 := HE.out.cell 1
          have r2 := HE.out.cell 2
          have r3 := HE.out.cell 3
          refine bodyPost_ret (v := .tuple #[.agg #[.int .i64 (k4 j), .string ⟨#[]⟩, .int .i64 0, .slice (some ⟨BS, 0, none⟩) 1 1], .string ⟨rest.toArray⟩, .bool true]) ?_ rfl (HPS.out (oneT (k4 j) 0 a) rest _ _ _ HRS.out rfl ⟨.slice (some ⟨BS, 0, none⟩) 1 1, rfl, HKE.out⟩ HEB.out)
          simp [set4] at r0 r1 r2 r3
          simp [results, Tryd.results49, go_sem, r0, r1, r2, r3]
        · have HRN := Lib.hid (show rt (m + 1) s = none from rt_one0 HBR.out HT2.out hr)
          have HW5 := Lib.hid (HW4.out.trans (hb5.mono HW4.out.size))
          have HZ5 := Lib.hid (HZ4.out.below hb5)
          have HH5 := Lib.hid (HH4.out.below hb5)
          have HC5 := Lib.hid (HK4C.out.below hb5)
          clear hr
          go_upto_region 24 with fail
          obtain ⟨W6, hW6⟩ : ∃ W6, W6 = W5.alloc (.cells #[.int .i64 ka, .string ⟨kb.toArray⟩, .int .i64 kc, .slice Aa na ca] 26) := ⟨_, rfl⟩
          have hb6 : Below W5.heap.size W5 W6 := by rw [hW6]; exact (Below.refl _ _).alloc (Nat.le_refl _) _
          have HV6 := Lib.hid (show Blk W6 W5.heap.size #[.int .i64 ka, .string ⟨kb.toArray⟩, .int .i64 kc, .slice Aa na ca] 26 by rw [hW6]; exact Blk.new _ _ _)
          rw [← hW6]
          clear hW6
          have HW6 := Lib.hid (HW5.out.trans (hb6.mono HW5.out.size))
          have HZ6 := Lib.hid (HZ5.out.below hb6)
          have HH6 := Lib.hid (HH5.out.below hb6)
          have HC6 := Lib.hid (HC5.out.below hb6)
          have HX7N := Lib.hid (show w.heap.size < W5.heap.size from HZ5.out.lt)
          skip
          clear hb5 hb6
          generalize W5.heap.size = X7 at *
          have HLT3 := Lib.hid hlt
          refine Lex.wp_region_lex (fun w' => Blk w' X7 #[.int .i64 ka, .string ⟨kb.toArray⟩, .int .i64 kc, .slice Aa na ca] 26 ∧ Blk w' X5 #[.int .i64 3, .int .i64 6, .int .i64 7, .int .i64 8] 3) (fun _ => true)
            [(0, true), (1, true), (2, true), (3, true), (4, true), (7, true), (8, true), (5, false), (6, true), (9, false), (10, false), (11, false)]
            (by kernel_rfl) (by kernel_rfl) (by kernel_rfl) (by kernel_rfl) ⟨HV6.out, HC6.out⟩ ?_
          have hb0 : Below W6.heap.size W6 W6.drew := ⟨rfl, rfl, rfl, Nat.le_refl _, fun _ _ => rfl⟩
          have hw0 : Below w.heap.size w W6.drew := ⟨HW6.out.os, HW6.out.tape, HW6.out.output, HW6.out.size, HW6.out.block⟩
          generalize hV0 : W6.drew = V0 at *
          clear hV0
          iterate 7 (refine Lex.lex_take (v := ?_) rfl rfl (by rfl) (fun _ hS => ?_) ?_; rotate_left 1; (focus (have g0 := hS.1.cell 0; have g1 := hS.1.cell 1; have g2 := hS.1.cell 2; have g3 := hS.1.cell 3; have gk := k4_cell hS.2 HLT3.out; clear hS; go_simp; with_reducible rfl)); simp only [List.setIfInBounds_toArray, List.set_cons_zero, List.set_cons_succ])
          refine Lex.lex_do rfl ?_
          go_wp2_with fail
          refine Lex.lexQ_normal (fun _ => ⟨HV6.out.below (hb0.alloc hb0.size _), HC6.out.below (hb0.alloc hb0.size _)⟩) ?_
          refine Lex.lex_take (v := ?_) rfl rfl (by rfl) (fun _ hS => ?_) ?_; rotate_left 1; (focus (have g0 := hS.1.cell 0; have g1 := hS.1.cell 1; have g2 := hS.1.cell 2; have g3 := hS.1.cell 3; have gk := k4_cell hS.2 HLT3.out; clear hS; go_simp; with_reducible rfl)); simp only [List.setIfInBounds_toArray, List.set_cons_zero, List.set_cons_succ]
          refine Lex.lex_do rfl ?_
          obtain ⟨W9, hW9⟩ : ∃ W9, W9 = V0.alloc (.cells #[.int .i64 ka, .string ⟨kb.toArray⟩, .int .i64 kc, .slice Aa na ca] 26) := ⟨_, rfl⟩
          have hb9 : Below V0.heap.size V0 W9 := by rw [hW9]; exact (Below.refl _ _).alloc (Nat.le_refl _) _
          have HW9 := Lib.hid (hw0.trans (hb9.mono hw0.size))
          have HZ9 := Lib.hid ((HZ6.out.below hb0).below hb9)
          skip
          have HSF := Lib.hid (show Blk (set4 W9 w.heap.size (.int .i64 (k4 j)) (.string ⟨#[]⟩) (.int .i64 0) (.slice (some ⟨V0.heap.size, 0, none⟩) 1 1)) X7 #[.int .i64 ka, .string ⟨kb.toArray⟩, .int .i64 kc, .slice Aa na ca] 26 ∧ Blk (set4 W9 w.heap.size (.int .i64 (k4 j)) (.string ⟨#[]⟩) (.int .i64 0) (.slice (some ⟨V0.heap.size, 0, none⟩) 1 1)) X5 #[.int .i64 3, .int .i64 6, .int .i64 7, .int .i64 8] 3 from ⟨blk_set4Oth ((HV6.out.below hb0).below hb9) (Ne.symm (Nat.ne_of_lt HX7N.out)) _ _ _ _, blk_set4Oth ((HC6.out.below hb0).below hb9) (Ne.symm (Nat.ne_of_lt HX5N.out)) _ _ _ _⟩)
          rw [← hW9]
          clear hW9 hb9
          generalize V0.heap.size = BS at *
          have z0 := HZ9.out.cell 0
          have z1 := HZ9.out.cell 1
          have z2 := HZ9.out.cell 2
          have z3 := HZ9.out.cell 3
          have g0 := HZ9.out.free 0
          have g1 := HZ9.out.free 1
          have g2 := HZ9.out.free 2
          have g3 := HZ9.out.free 3
          go_wp2_with fail
          refine Lex.lexQ_normal (fun _ => HSF.out) ?_
          refine Lex.lex_do rfl ?_
          go_wp2_with fail
          refine Lex.lexQ_normal (fun _ => HSF.out) ?_
          refine Lex.lex_do rfl ?_
          go_wp2_with fail
          refine Lex.lexQ_normal (fun _ => HSF.out) ?_
          refine Lex.lex_nil ?_
          have HE := Lib.hid (HZ9.out.set4 (.int .i64 (k4 j)) (.string ⟨#[]⟩) (.int .i64 0) (.slice (some ⟨BS, 0, none⟩) 1 1))
          have HEB := Lib.hid (below_set4' HW9.out (Nat.le_refl _) (.int .i64 (k4 j)) (.string ⟨#[]⟩) (.int .i64 0) (.slice (some ⟨BS, 0, none⟩) 1 1))
          skip
          go_wp2
          have r0 := HE.out.cell 0
          have r1 := HE.out.cell 1
          have r2 := HE.out.cell 2
          have r3 := HE.out.cell 3
          refine bodyPost_ret (v := .tuple #[.agg #[.int .i64 (k4 j), .string ⟨#[]⟩, .int .i64 0, .slice (some ⟨BS, 0, none⟩) 1 1], .string ⟨rst.toArray⟩, .bool false]) ?_ rfl (HPN.out HRN.out (k4 j) [] 0 _ _ _ rst _ _ rfl HEB.out)
          simp [set4] at r0 r1 r2 r3
          simp [results, Tryd.results49, go_sem, r0, r1, r2, r3]
    · obtain rfl : j = 4 := by omega
      exact absurd (one2_none4 HALL.out) HONE.out
end Go.Proofs.YtobpacebpiabcaaDoor
