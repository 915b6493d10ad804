/- Texts Va Vd Vf Vg in one. -/
import Derived.Test.YtbkgbkmpalbdpaaGreatDoorPkUc
import Derived.Test.YtbkgbkmpalbdpaaGreatDoorPkRk
import Derived.Test.YtbkgbkmpalbdpaaGreatDoorPkRo
import Derived.Laws.EntriesVeiled
import Derived.Test.YtbkgbkmpalbdpaaGreatDoorPkQa
namespace Go.Proofs.YtbkgbkmpalbdpaaGreatDoor
open Go.RowKit Go.Lib

theorem Step.next {w W : World} {k : List UInt8} {s s' : RSt} (h : Step w k s s') (hb : Below w.heap.size w W) : Step W k s s' := by
  rcases h with h | ⟨h1, x, rest, v, h2, h3, h4⟩ | ⟨h1, h2, h3, h4, h5⟩ | ⟨h1, h2, h3, h4⟩
  · exact .inl h
  · exact .inr (.inl ⟨h1, x, rest, v, h2, h3, fun Z g => h4 Z (hb.trans (g.mono hb.size))⟩)
  · exact .inr (.inr (.inl ⟨h1, h2, h3, h4, fun x hx Z g => h5 x hx Z (hb.trans (g.mono hb.size))⟩))
  · exact .inr (.inr (.inr ⟨h1, h2, h3, fun x hx Z g => h4 x hx Z (hb.trans (g.mono hb.size))⟩))
/-- What a command leaves: the reply cell as it was, and what Q says once the reply is stored there. -/
def RetCmd (A : Nat) (Q : Ending → World → Prop) (e : Ending) (w' : World) : Prop := ∃ p n c k, e = .returned (.agg #[.slice p n c, .int .i64 k]) ∧ Blk w' A #[.slice none 0 0, .int .i64 0] 60 ∧
  ∀ W', W' = (w'.setCell ⟨A, 0, none⟩ (.slice p n c)).setCell ⟨A, 1, none⟩ (.int .i64 k) → Blk W' A #[.slice p n c, .int .i64 k] 60 → Q (.returned (.agg #[.slice p n c, .int .i64 k])) W'
set_option maxRecDepth 100000 in
set_option maxHeartbeats 6400000 in
theorem do_any {w : World} {H a c n i fn : Nat} {name form : List UInt8} {rest ks : List (List UInt8)} {st : Nat → RSt} {Q : Ending → World → Prop} (hL : LibOk w) (hl : LiesV w a 0 ((name :: rest).map str)) (hn : rest.length + 1 = n) (hnc : n ≤ c) (hw : n ≤ 50)
    (hne : ∀ y ∈ name :: rest, y ≠ []) (hi : cmds[i]? = some (name, form, fn)) (hbef : (cmds.take i).all (fun x => x.1 != name) = true)
    (hf : fields form = ks) (hfa : ∀ c ∈ form, c.toNat < 128) (hfl : form.length ≤ 1000) (h0 : st 0 = (rest, [], []))
    (hstep : ∀ i k, ks[i]? = some k → Step w k (st i) (st (i + 1))) (hend : (st ks.length).1 = []) (hks : ks.length ≤ 10) (hlens : ∀ i, (st i).1.length ≤ 50 ∧ (st i).2.1.length ≤ 100 ∧ (st i).2.2.length ≤ 100)
    (hfn : ∀ (args : Array Value) (W : World), (callFunc fn args).run Tryz.prog W = .ok (.enter fn args) W)
    (hC : ∀ W v1 v2 base, Below w.heap.size w W → w.heap.size < base → W.ownsRow base 9 1 v1 (st ks.length).2.1.length ((st ks.length).2.1.map str) → W.ownsRow base 3 1 v2 (st ks.length).2.2.length ((st ks.length).2.2.map intv) → Blk W w.heap.size #[.slice none 0 0, .int .i64 0] 60 →
      Calls Tryz.prog fn #[.pointer (some ⟨H, 0, none⟩), argV v1 v2 0] W (RetCmd w.heap.size Q)) :
    Calls Tryz.prog 19 #[.pointer (some ⟨H, 0, none⟩), .slice (some ⟨a, 0, none⟩) n c] w Q := by
  obtain ⟨A, hA⟩ : ∃ A, w.heap.size = A := ⟨_, rfl⟩
  obtain ⟨W0, hW0⟩ : ∃ W0, W0 = w.alloc (.cells #[.slice none 0 0, .int .i64 0] 60) := ⟨_, rfl⟩
  have hb0 : Below w.heap.size w W0 := by rw [hW0]; exact (Below.refl _ _).alloc (Nat.le_refl _) _
  have hrp : Blk W0 A #[.slice none 0 0, .int .i64 0] 60 := by rw [hW0, ← hA]; exact Blk.new _ _ _
  have hsz : W0.heap.size = A + 1 := by rw [hW0]; simp [hA]
  have cc := contains_ok (w := W0) (c := c) (x := []) (n := n) (by simpa using hn) (hl.below hb0) (by omega) hne
  have cm := commands_any W0
  rw [hsz] at cm
  obtain ⟨ro, hro, hlr⟩ := cut_from (c := c) hl 1 (by simp only [List.length_map, List.length_cons]; omega)
  have HSZ := Lib.hid hsz
  have HLR := Lib.hid hlr
  have HB0 := Lib.hid hb0
  have HRP := Lib.hid hrp
  have HLL := Lib.hid hL
  have HL := Lib.hid hl
  have HI := Lib.hid hi
  have HN := Lib.hid hn
  have HLE := Lib.hid (And.intro hnc hw)
  have HBEF := Lib.hid (show ∀ j, j < i → ∀ x, cmds[j]? = some x → x.1 ≠ name from fun j hj x hx => by
    have h1 : x ∈ cmds.take i := List.mem_of_getElem? (i := j) (by rw [List.getElem?_take, if_pos hj]; exact hx)
    have h2 := List.all_eq_true.1 hbef x h1
    simpa using h2)
  have hi36 : i < 36 := by
    have h1 := (List.getElem?_eq_some_iff.1 hi).1
    have h2 : cmds.length = 36 := rfl
    omega
  have HRD := Lib.hid (fun (W : World) (off cap : Nat) (g : Below w.heap.size w W) (gl : LiesV W a off (rest.map str)) (gc : n - 1 ≤ cap) => read_any (hL.below g) hf hfa hfl h0 (c := cap) (n := n - 1) gl (by omega) gc (by omega) (fun i k hk => (hstep i k hk).next g) hend hks hlens)
  rw [hA] at hC
  have HC := Lib.hid hC
  have HFN := Lib.hid hfn
  have HA := Lib.hid hA
  clear hL hl hn hnc hw hne hi hbef hf hfa hfl h0 hstep hend hks hlens hfn hC hA hb0 hrp hsz hlr
  go_enter Tryz.func19, Tryz.ntmps19
  go_upto_region 1 with fail
  rw [← hW0, HA.out]
  clear hW0
  go_wp2_with fail
  refine cc.mono ?_
  rintro e V ⟨rfl, rfl⟩
  clear cc
  go_wp2_with fail
  refine cm.mono ?_
  rintro e W1 ⟨rfl, hW1⟩
  clear cm
  have hcm : Blk W1 (A + 1) (cmdC cmds).toArray 129 := by rw [hW1, ← HSZ.out]; exact Blk.new _ _ _
  have HCM := Lib.hid hcm
  have HB1 := Lib.hid (show Below w.heap.size w W1 from by rw [hW1]; exact HB0.out.alloc HB0.out.size _)
  have HR1 := Lib.hid (show Blk W1 A #[.slice none 0 0, .int .i64 0] 60 from by rw [hW1]; exact HRP.out.below ((Below.refl _ _).alloc (Nat.le_refl _) _))
  have HS1 := Lib.hid (show W1.heap.size = A + 2 from by rw [hW1]; simp [HSZ.out])
  clear hcm hW1
  go_wp2
  go_loopw [14] (fun s14 wr => ∃ j : Nat, j ≤ i ∧ s14 = .int .i64 (j : Int) ∧ Below W1.heap.size W1 wr) (fun s14 _ => i + 1 - (intOf s14).toNat)
  case atStart => exact ⟨0, Nat.zero_le _, rfl, Below.refl _ _⟩
  case round =>
    obtain ⟨j, hj, rfl, hbw⟩ := hrel
    obtain ⟨⟨nm, fm, f2⟩, hx⟩ : ∃ x, cmds[j]? = some x := ⟨cmds[j]'(by have : cmds.length = 36 := rfl; omega), List.getElem?_eq_getElem _⟩
    obtain ⟨q0, q1, q2⟩ := cmdC_get cmds j _ hx
    have k0 := (hbw.cell (p := ⟨A + 1, j * 3, none⟩) HCM.out.lt).trans ((HCM.out.cell (j * 3)).trans (by simpa using q0))
    have k1 := (hbw.cell (p := ⟨A + 1, j * 3 + 1, none⟩) HCM.out.lt).trans ((HCM.out.cell (j * 3 + 1)).trans (by simpa using q1))
    have k2 := (hbw.cell (p := ⟨A + 1, j * 3 + 2, none⟩) HCM.out.lt).trans ((HCM.out.cell (j * 3 + 2)).trans (by simpa using q2))
    unfold str at k0 k1
    have hj36 : (j : Int) < 36 := by omega
    have hj0 : (0 : Int) ≤ (j : Int) := by omega
    have HBJ := Lib.hid hbw
    have HWJ := Lib.hid (show Below w.heap.size w wr from HB1.out.trans (hbw.mono HB1.out.size))
    have HX := Lib.hid hx
    clear hbw hx q0 q1 q2
    obtain ⟨W4, hW4⟩ : ∃ W4, W4 = wr.alloc (.cells #[.string ⟨nm.toArray⟩, .string ⟨fm.toArray⟩, .func (.func f2) #[] #[]] 129) := ⟨_, rfl⟩
    have hb4 : Below wr.heap.size wr W4 := by rw [hW4]; exact (Below.refl _ _).alloc (Nat.le_refl _) _
    have hz4 : Blk W4 wr.heap.size #[.string ⟨nm.toArray⟩, .string ⟨fm.toArray⟩, .func (.func f2) #[] #[]] 129 := by rw [hW4]; exact Blk.new _ _ _
    have z0 := hz4.cell 0
    have z1 := hz4.cell 1
    have z2 := hz4.cell 2
    have HZ4 := Lib.hid hz4
    have HB4 := Lib.hid (HWJ.out.trans (hb4.mono HWJ.out.size))
    have HBB := Lib.hid (HBJ.out.trans (hb4.mono HBJ.out.size))
    have l0 := (HB4.out.cell (p := ⟨a, 0, none⟩) HL.out.1).trans (HL.out.2 0 (str name) rfl)
    unfold str at l0
    have hn0 : (0 : Int) < (n : Int) := by have := HN.out; omega
    have hn1 : (1 : Int) ≤ (n : Int) := by have := HN.out; omega
    go_upto_region 6 with fail
    rw [← hW4]
    clear hW4 k0 k1 k2 hz4 hb4
    by_cases hlt : j < i
    · have hkk : (nm == name) = false := beq_eq_false_iff_ne.2 (HBEF.out j hlt _ HX.out)
      go_wp2
      go_quiet (fail)
      go_wp2
      go_roundw
      case rel => exact ⟨j + 1, by omega, by go_num, HBB.out.drewN _⟩
      case measure => simp [intOf]; omega
    · obtain rfl : j = i := by omega
      have hq := Option.some.inj (HX.out.symm.trans HI.out)
      obtain ⟨rfl, rfl, rfl⟩ : nm = name ∧ fm = form ∧ f2 = fn := by
        injection hq with q1 q2
        injection q2 with q2 q3
        exact ⟨q1, q2, q3⟩
      have hkk : (nm == nm) = true := beq_self_eq_true _
      clear hq
      go_wp2
      go_quiet (fail)
      go_wp2
      obtain ⟨W5, hW5⟩ : ∃ W5, W5 = W4.drewN nq := ⟨_, rfl⟩
      rw [← hW5]
      have hb5 : Below W4.heap.size W4 W5 := by rw [hW5]; exact (Below.refl _ _).drewN _
      have HZ5 := Lib.hid (HZ4.out.below hb5)
      have HB5 := Lib.hid (HB4.out.trans (hb5.mono HB4.out.size))
      have HBB5 := Lib.hid (HBB.out.trans (hb5.mono HBB.out.size))
      have HK1 := Lib.hid (show W5.cell? ⟨wr.heap.size, 1, none⟩ = some (.string ⟨fm.toArray⟩) ∧ wr.heap.size < W5.heap.size from ⟨HZ5.out.cell 1, HZ5.out.lt⟩)
      have HWR := Lib.hid (Below.refl W5.heap.size W5)
      have hnc : (n : Int) ≤ (c : Int) := by have := HLE.out.1; omega
      have hc1 : (1 : Int) ≤ (c : Int) := by omega
      clear hW5 hb5 z0 z1 z2 l0
      go_cut [7, 8] (fun s7 s8 wx => ∃ T p1 m1 c1 p2 m2 c2 base, s7 = .pointer (some ⟨T, 0, none⟩) ∧ s8 = .bool true ∧ Blk wx T #[.slice p1 m1 c1, .slice p2 m2 c2, .int .i64 0] 131 ∧ W5.heap.size ≤ base ∧ wx.ownsRow base 9 1 (.slice p1 m1 c1) (st ks.length).2.1.length ((st ks.length).2.1.map str) ∧ wx.ownsRow base 3 1 (.slice p2 m2 c2) (st ks.length).2.2.length ((st ks.length).2.2.map intv) ∧ Below W5.heap.size W5 wx)
      case first =>
        refine Lex.wp_region_fork (fun w' => Below W5.heap.size W5 w') (fun _ => true) [(0, true), (1, true), (2, true), (3, true)] 4 8 [(5, true), (6, true), (7, true), (8, false), (9, false), (10, false)] [(4, false), (5, true), (6, true), (7, true), (9, false), (10, false)]
          (by kernel_rfl) (by kernel_rfl) (by kernel_rfl) (by kernel_rfl) (by kernel_rfl) (by kernel_rfl) rfl rfl (by kernel_rfl) (by kernel_rfl) ⟨rfl, rfl, rfl, Nat.le_refl _, fun _ _ => rfl⟩ ?_
        have hb0 : Below W5.heap.size W5 W5.drew := ⟨rfl, rfl, rfl, Nat.le_refl _, fun _ _ => rfl⟩
        generalize hV0 : W5.drew = V0 at *
        clear hV0
        iterate 4 (refine Lex.lex_take (v := ?_) rfl rfl (by rfl) (fun _ hS => ?_) ?_; rotate_left 1; (focus (have g0 := (hS.cell HK1.out.2).trans HK1.out.1; clear hS; go_simp; with_reducible rfl)); simp only [List.setIfInBounds_toArray, List.set_cons_zero, List.set_cons_succ])
        refine Lex.fork_nil ?_ ?_
        · skip
          refine Lex.lex_do rfl ?_
          have cc := HRD.out V0 ro (c - 1) (HB5.out.trans (hb0.mono HB5.out.size)) (HLR.out.below (HB5.out.trans (hb0.mono HB5.out.size))) (by omega)
          go_wp2_with fail
          refine cc.mono ?_
          rintro e V1 ⟨v1, v2, base, rfl, hbs, r1, r2, hn1⟩
          have hb1 := hb0.trans (hn1.mono hb0.size)
          obtain ⟨p1, m1, c1, rfl⟩ := row_slice r1
          obtain ⟨p2, m2, c2, rfl⟩ := row_slice r2
          have HR1 := Lib.hid r1
          have HR2 := Lib.hid r2
          have HBS := Lib.hid hbs
          have HN1 := Lib.hid hn1
          clear cc r1 r2 hbs hn1
          unfold argV
          go_wp2_with fail
          refine Lex.lexQ_normal (fun _ => hb1) ?_
          iterate 3 (refine Lex.lex_take (v := ?_) rfl rfl (by rfl) (fun _ hS => ?_) ?_; rotate_left 1; (focus (clear hS; go_simp; with_reducible rfl)); simp only [List.setIfInBounds_toArray, List.set_cons_zero, List.set_cons_succ])
          refine Lex.lex_do rfl ?_
          go_wp2_with fail
          refine Lex.lexQ_normal (fun _ => hb1.alloc hb1.size _) ?_
          refine Lex.lex_do rfl ?_
          go_wp2_with fail
          refine Lex.lexQ_normal (fun _ => hb1.alloc hb1.size _) ?_
          refine Lex.lex_do rfl ?_
          go_wp2_with fail
          refine Lex.lexQ_normal (fun _ => hb1.alloc hb1.size _) ?_
          refine Lex.lex_nil ?_
          go_wp2_with fail
          go_meet
          have hal : Below V1.heap.size V1 (V1.alloc (.cells #[.slice p1 m1 c1, .slice p2 m2 c2, .int .i64 0] 131)) := (Below.refl _ _).alloc (Nat.le_refl _) _
          exact ⟨V1.heap.size, p1, m1, c1, p2, m2, c2, base, rfl, rfl, Blk.new _ _ _, Nat.le_trans hb0.size HBS.out, row_fr HR1.out (fr_of_below hal []) (by simp), row_fr HR2.out (fr_of_below hal []) (by simp), hb1.alloc hb1.size _⟩
        · skip
          refine Lex.lex_do rfl ?_
          go_wp2_with fail
          obtain ⟨V1, hV1⟩ : ∃ V1, V1 = V0.alloc (.cells #[.slice none 0 0, .slice none 0 0, .int .i64 0] 131) := ⟨_, rfl⟩
          have hb1 : Below W5.heap.size W5 V1 := by rw [hV1]; exact hb0.alloc hb0.size _
          obtain ⟨T, hT⟩ : ∃ T, V0.heap.size = T := ⟨_, rfl⟩
          have HT := Lib.hid (show W5.heap.size ≤ T ∧ T < V1.heap.size from ⟨by have := hb0.size; omega, by rw [hV1, ← hT]; simp⟩)
          have HZT := Lib.hid (show Blk V1 T #[.slice none 0 0, .slice none 0 0, .int .i64 0] 131 by rw [hV1, ← hT]; exact Blk.new _ _ _)
          rw [← hV1, hT]
          clear hV1 hT
          refine Lex.lexQ_normal (fun _ => hb1) ?_
          refine Lex.lex_do rfl ?_
          have cc := HRD.out V1 ro (c - 1) (HB5.out.trans (hb1.mono HB5.out.size)) (HLR.out.below (HB5.out.trans (hb1.mono HB5.out.size))) (by omega)
          go_wp2_with fail
          refine cc.mono ?_
          rintro e V2 ⟨v1, v2, base, rfl, hbs, r1, r2, hn1⟩
          have hb2 := hb1.trans (hn1.mono hb1.size)
          obtain ⟨p1, m1, c1, rfl⟩ := row_slice r1
          obtain ⟨p2, m2, c2, rfl⟩ := row_slice r2
          have HR1 := Lib.hid r1
          have HR2 := Lib.hid r2
          have HBS := Lib.hid hbs
          have HN1 := Lib.hid hn1
          clear cc r1 r2 hbs hn1
          unfold argV
          go_wp2_with fail
          refine Lex.lexQ_normal (fun _ => hb2) ?_
          iterate 3 (refine Lex.lex_take (v := ?_) rfl rfl (by rfl) (fun _ hS => ?_) ?_; rotate_left 1; (focus (clear hS; go_simp; with_reducible rfl)); simp only [List.setIfInBounds_toArray, List.set_cons_zero, List.set_cons_succ])
          refine Lex.lex_do rfl ?_
          have hz2 := HZT.out.below HN1.out
          have y0 := hz2.cell 0
          have y1 := hz2.cell 1
          have y2 := hz2.cell 2
          have g0 := hz2.free 0
          have g1 := hz2.free 1
          have g2 := hz2.free 2
          obtain ⟨W6, hW6⟩ : ∃ W6, W6 = ((V2.setCell ⟨T, 0, none⟩ (.slice p1 m1 c1)).setCell ⟨T, 1, none⟩ (.slice p2 m2 c2)).setCell ⟨T, 2, none⟩ (.int .i64 0) := ⟨_, rfl⟩
          have HF6 := Lib.hid (show Fr [T] V2 W6 by rw [hW6]; exact (((Fr.refl _ _).set _ (.inl (by simp)) _).set _ (.inl (by simp)) _).set _ (.inl (by simp)) _)
          have HR6 := Lib.hid (show Blk W6 T #[.slice p1 m1 c1, .slice p2 m2 c2, .int .i64 0] 131 by rw [hW6]; exact ((hz2.set 0 _).set 1 _).set 2 _)
          have HB6 := Lib.hid (show Below W5.heap.size W5 W6 from hb2.trans (HF6.out.belowOf hb2.size (fun k hk => by simp at hk; have := HT.out.1; omega)))
          clear hz2
          go_wp2_with fail
          subst hW6
          refine Lex.lexQ_normal (fun _ => HB6.out) ?_
          refine Lex.lex_do rfl ?_
          go_wp2_with fail
          refine Lex.lexQ_normal (fun _ => HB6.out) ?_
          refine Lex.lex_nil ?_
          go_wp2_with fail
          go_meet
          exact ⟨T, p1, m1, c1, p2, m2, c2, base, rfl, rfl, HR6.out, Nat.le_trans hb1.size HBS.out, row_fr HR1.out HF6.out (fun k hk q => by have := (HR1.out.lt k hk).1; have := HT.out.2; have := HBS.out; simp at q; omega), row_fr HR2.out HF6.out (fun k hk q => by have := (HR2.out.lt k hk).1; have := HT.out.2; have := HBS.out; simp at q; omega), HB6.out⟩
      case rest =>
        obtain ⟨T, p1, m1, c1, p2, m2, c2, base, rfl, rfl, hzt, hbs, r1, r2, hbx⟩ := hcut
        have hbw := HB5.out.trans (hbx.mono HB5.out.size)
        have hrA := HR1.out.below (HBB5.out.trans (hbx.mono HBB5.out.size))
        have hAb : A < base := by have h1 := HBB5.out.size; have h2 := HS1.out; omega
        have ck := HC.out wc _ _ base (by rw [← HA.out]; exact hbw) hAb r1 r2 hrA
        have t0 := hzt.cell 0
        have t1 := hzt.cell 1
        have t2 := hzt.cell 2
        have q2 := (HZ5.out.below hbx).cell 2
        unfold argV at ck
        clear hbw hrA hAb hbs r1 r2 hbx hzt
        go_wp2_with fail
        rw [HFN.out, Oper.upon_enter]
        refine ck.mono ?_
        rintro e V ⟨p, n1, c3, k, rfl, hb, hfin⟩
        have r0 := hb.cell 0
        have r1 := hb.cell 1
        have f0 := hb.free 0
        have f1 := hb.free 1
        obtain ⟨W6, hW6⟩ : ∃ W6, W6 = (V.setCell ⟨A, 0, none⟩ (.slice p n1 c3)).setCell ⟨A, 1, none⟩ (.int .i64 k) := ⟨_, rfl⟩
        have HR6 := Lib.hid (show Blk W6 A #[.slice p n1 c3, .int .i64 k] 60 by rw [hW6]; exact (hb.set 0 _).set 1 _)
        have HQ6 := Lib.hid (hfin W6 hW6 HR6.out)
        clear ck hfin hb t0 t1 t2 q2
        go_wp2
        rw [← hW6]
        have u0 := HR6.out.cell 0
        have u1 := HR6.out.cell 1
        exact bodyPost_ret (v := .agg #[.slice p n1 c3, .int .i64 k]) (by simp [results, Tryz.results19, go_sem, u0, u1]) rfl HQ6.out
end Go.Proofs.YtbkgbkmpalbdpaaGreatDoor

namespace Go.Proofs.YtbkgbkmpalbdpaaGreatDoor
open Go.RowKit Go.Lib

theorem HS.made {B H : Nat} {P : List Nat} {w : World} {xs : List (Nat × Tr)} (h : HS B H P w xs) : w.cell? ⟨H, 0, none⟩ = some (.bool true) := by
  obtain ⟨S, D, R, M, K, c, X, cur, h1, _⟩ := h
  exact Blk.cell h1 0
theorem num_not {w : World} {c : UInt8} (h : c ≠ 45) (hd : c.toNat < 48 ∨ 57 < c.toNat) : NumA w [c] := fun W _ => ⟨0, false, (number_not h hd).mono fun e w' ⟨h1, h2⟩ => ⟨h1, by rw [h2]; exact Below.refl _ _⟩⟩
theorem num_yes {w : World} {c : UInt8} {v : Nat} (hL : LibOk w) (h1 : 49 ≤ c.toNat) (h2 : c.toNat ≤ 57) (hv : G.atoiV [c] = (v : Int)) : NumY w [c] v := fun _W g => number_dig (hL.below g) h1 h2 hv
theorem NumY.any {w : World} {x : List UInt8} {v : Nat} (h : NumY w x v) : NumA w x := fun W g => ⟨_, _, h W g⟩
theorem rep_text {base : Nat} {lines : List (List UInt8)} {W : World} {v : Value} {s : List UInt8} (h : RepOk base lines W v) (hn : lines.length ≤ 100) (hx : ∀ x ∈ lines, x.length ≤ 5000) (hs : linesT lines = s) : Calls Tryz.prog 16 #[v] W (RetW (.string ⟨s.toArray⟩) W) := by
  obtain ⟨g, c, _, rfl, hl⟩ := h
  rw [← hs]
  exact text_ok hl rfl hn hx
theorem cmd_below {w W w' : World} {e : Ending} {lines : List (List UInt8)} (hb : Below w.heap.size w W) (hr : Blk W w.heap.size #[.slice none 0 0, .int .i64 0] 60) (h : ∃ v, e = .returned v ∧ RepOk W.heap.size lines w' v ∧ Below W.heap.size W w') :
    RetCmd w.heap.size (fun e W' => ∃ v, e = .returned v ∧ RepOk w.heap.size lines W' v ∧ Below w.heap.size w W') e w' := by
  obtain ⟨v, rfl, ⟨g, c, hg, rfl, hl⟩, hb2⟩ := h
  have hlt := hr.lt
  refine ⟨_, _, _, _, rfl, hr.below hb2, fun W' hW _ => ⟨_, rfl, ⟨g, c, by omega, rfl, ?_⟩, ?_⟩⟩
  · have hF : Fr [w.heap.size] w' W' := by rw [hW]; exact ((Fr.refl _ _).set _ (.inl (by simp)) _).set _ (.inl (by simp)) _
    exact hl.fr hF (by simp; omega)
  · rw [hW]
    exact ((hb.trans (hb2.mono hb.size)).setCell (p := ⟨w.heap.size, 0, none⟩) (Nat.le_refl _) _).setCell (p := ⟨w.heap.size, 1, none⟩) (Nat.le_refl _) _
theorem cmd_com {B H num : Nat} {xs : List (Nat × Tr)} {Q : Tr → Prop} {w W w' : World} {e : Ending} (hb : Below w.heap.size w W) (hBw : B ≤ w.heap.size) (hr : Blk W w.heap.size #[.slice none 0 0, .int .i64 0] 60) (h : HCom B H num [w.heap.size] xs Q W e w') :
    RetCmd w.heap.size (HCom B H num [] xs Q w) e w' := by
  obtain ⟨g, c, rfl, h1, h2⟩ := HCom.store (P := []) hb (by simp) (Nat.le_refl _) hBw hr h
  exact ⟨_, _, _, _, rfl, h1, fun W' hW _ => (h2 W' hW).2⟩
theorem row_v1 : rowT versionW [0 + 1] = [118, 101, 114, 115, 105, 111, 110, 32, 49] := by kernel_rfl
theorem row_v2 : rowT versionW [1 + 1] = [118, 101, 114, 115, 105, 111, 110, 32, 50] := by kernel_rfl
theorem text13 : G.textM 1 3 = [49, 47, 51] := by kernel_rfl
theorem text12 : G.textM 1 2 = [49, 47, 50] := by kernel_rfl
theorem betw_1312 : G.betwR 1 3 1 2 = .tuple #[.agg #[.int .i64 1, .int .i64 2], .int .i64 0] := by kernel_rfl
def st1 : Nat → RSt
  | 0 => ([[49, 47, 51], [49, 47, 50]], [], [])
  | 1 => ([[49, 47, 50]], [[49, 47, 51]], [])
  | _ => ([], [[49, 47, 51], [49, 47, 50]], [])
def betweenW : List UInt8 := [98, 101, 116, 119, 101, 101, 110]
set_option maxRecDepth 100000 in
theorem line_between {w : World} {B H : Nat} {xs : List (Nat × Tr)} (h : HS B H [] w xs) (hL : LibB B w) :
    Calls Tryz.prog 6 #[.pointer (some ⟨H, 0, none⟩), .string ⟨#[98, 101, 116, 119, 101, 101, 110, 32, 49, 47, 51, 32, 49, 47, 50]⟩] w (fun e W => e = .returned (.string ⟨#[102, 114, 97, 99, 32, 49, 47, 50, 10]⟩) ∧ HS B H [] W xs ∧ Below B w W) := by
  have hB := h.le.1
  refine line_any (x := 98) (l := [101, 116, 119, 101, 101, 110, 32, 49, 47, 51, 32, 49, 47, 50]) (s := [102, 114, 97, 99, 32, 49, 47, 50, 10]) (ws := [betweenW, [49, 47, 51], [49, 47, 50]]) (R := fun W => HS B H [] W xs ∧ Below B w W) h.made h.le.2.1 hL.here (by decide) (by decide) (by decide) (by decide) (by decide) (by decide) (fun W g hb hg hl => ?_)
  have hLW := (hL.next (hb.mono hB))
  refine (do_any (i := 0) (name := betweenW) (form := [119, 32, 119]) (fn := 67) (ks := [[119], [119]]) (st := st1) (Q := fun e W' => ∃ v, e = .returned v ∧ RepOk W.heap.size [[102, 114, 97, 99, 32, 49, 47, 50]] W' v ∧ Below W.heap.size W W') hLW.here hl rfl (by decide) (by decide) (by decide) rfl rfl (by decide) (by decide) (by decide) rfl (fun i k hk => ?_) rfl (by decide) (fun i => ?_) (fun _ _ => by kernel_rfl) (fun V v1 v2 base hbV hbs r1 r2 hr => ?_)).mono ?_
  · rcases i with _ | _ | i
    · simp at hk; subst hk; exact .inl ⟨rfl, _, _, rfl, rfl⟩
    · simp at hk; subst hk; exact .inl ⟨rfl, _, _, rfl, rfl⟩
    · simp at hk
  · rcases i with _ | _ | i <;> simp [st1]
  · obtain ⟨g1, c1, rfl, _, _⟩ := World.ownsRow.form r1 (by decide)
    have hlV := hLW.next (hbV.mono (Nat.le_trans hB hb.size))
    have hl1 : LiesV V g1 0 [str (G.textM 1 3), str (G.textM 1 2)] := by rw [text13, text12]; exact lies_row2 r1
    refine (between_ok (p := 1) (q := 3) (r := 1) (s := 2) (x := 1) (y := 2) hlV.here hl1 (by decide) (by decide) (by decide) betw_1312 (row_one1 r2)).mono fun e w' q => ?_
    rw [text12] at q
    exact cmd_below hbV hr q
  · rintro e W' ⟨v, rfl, hr, hb2⟩
    refine ⟨v, rfl, (rep_text (s := [102, 114, 97, 99, 32, 49, 47, 50, 10]) hr (by decide) (by decide) (by decide)).mono fun e W3 ⟨h1, h2⟩ => ⟨h1, ?_, ?_⟩⟩
    · exact h.below (hb.trans ((hb2.mono hb.size).trans (h2.mono (Nat.le_trans hb.size hb2.size)))) (by simp)
    · exact (hb.trans ((hb2.mono hb.size).trans (h2.mono (Nat.le_trans hb.size hb2.size)))).mono hB
def st2 : Nat → RSt
  | 0 => ([[97], [49], [98], [50]], [], [])
  | _ => ([], [[97], [49], [98], [50]], [])
def putW : List UInt8 := [112, 117, 116]
set_option maxRecDepth 100000 in
theorem line_put {w : World} {B H : Nat} (h : HS B H [] w [(0, .nil)]) (hL : LibB B w) :
    Calls Tryz.prog 6 #[.pointer (some ⟨H, 0, none⟩), .string ⟨#[112, 117, 116, 32, 97, 32, 49, 32, 98, 32, 50]⟩] w (fun e W => e = .returned (.string ⟨#[118, 101, 114, 115, 105, 111, 110, 32, 49, 10]⟩) ∧ ∃ t, T1 t ∧ HS B H [] W [(1, t), (0, .nil)] ∧ Below B w W) := by
  have hB := h.le.1
  refine line_any (x := 112) (l := [117, 116, 32, 97, 32, 49, 32, 98, 32, 50]) (s := [118, 101, 114, 115, 105, 111, 110, 32, 49, 10]) (ws := [putW, [97], [49], [98], [50]]) (R := fun W => ∃ t, T1 t ∧ HS B H [] W [(1, t), (0, .nil)] ∧ Below B w W) h.made h.le.2.1 hL.here (by decide) (by decide) (by decide) (by decide) (by decide) (by decide) (fun W g hb hg hl => ?_)
  have hLW := (hL.next (hb.mono hB))
  have hBW := Nat.le_trans hB hb.size
  refine (do_any (i := 27) (name := putW) (form := [119, 119, 43]) (fn := 94) (ks := [[119, 119, 43]]) (st := st2) (Q := HCom B H 0 [] [(0, .nil)] T1 W) hLW.here hl rfl (by decide) (by decide) (by decide) rfl rfl (by decide) (by decide) (by decide) rfl (fun i k hk => ?_) rfl (by decide) (fun i => ?_) (fun _ _ => by kernel_rfl) (fun V v1 v2 base hbV hbs r1 r2 hr => ?_)).mono ?_
  · rcases i with _ | i
    · simp at hk
      subst hk
      refine .inr (.inr (.inl ⟨rfl, by simp [st2], by simp [st2], rfl, fun x hx => ?_⟩))
      simp only [st2, List.mem_cons, List.not_mem_nil, or_false] at hx
      rcases hx with rfl | rfl | rfl | rfl
      · exact num_not (by decide) (by decide)
      · exact (num_yes (v := 1) hLW.here (by decide) (by decide) (by decide)).any
      · exact num_not (by decide) (by decide)
      · exact (num_yes (v := 2) hLW.here (by decide) (by decide) (by decide)).any
    · simp at hk
  · rcases i with _ | i <;> simp [st2]
  · obtain ⟨g1, c1, rfl, _, _⟩ := World.ownsRow.form r1 (by decide)
    have hlV := hLW.next (hbV.mono hBW)
    have hsV : HS B H [W.heap.size] V [(0, .nil)] := h.below (hb.trans (hbV.mono hb.size)) (fun p hp => by simp at hp; subst hp; exact .inr ⟨hb.size, hr.lt⟩)
    exact (put_house hsV hlV (lies_row2 r1)).mono fun e w' q => cmd_com hbV hBW hr q
  · rintro e W' ⟨v, t, f, rfl, hr, ht, hs, hb2, _⟩
    refine ⟨v, rfl, (rep_text (s := [118, 101, 114, 115, 105, 111, 110, 32, 49, 10]) (row_v1 ▸ hr) (by decide) (by decide) (by decide)).mono fun e W3 ⟨h1, h2⟩ => ⟨h1, t.asg f, ht.asg f, ?_, ?_⟩⟩
    · exact hs.below h2 (by simp)
    · exact (hb.mono hB).trans (hb2.trans (h2.mono hs.le.1))
def st3 : Nat → RSt
  | 0 => ([[97]], [], [])
  | _ => ([], [[97]], [])
def drpW : List UInt8 := [100, 114, 111, 112]
set_option maxRecDepth 100000 in
theorem line_drop {w : World} {B H : Nat} {t1 : Tr} (h : HS B H [] w [(1, t1), (0, .nil)]) (ht1 : T1 t1) (hL : LibB B w) :
    Calls Tryz.prog 6 #[.pointer (some ⟨H, 0, none⟩), .string ⟨#[100, 114, 111, 112, 32, 97]⟩] w (fun e W => e = .returned (.string ⟨#[118, 101, 114, 115, 105, 111, 110, 32, 50, 10]⟩) ∧ ∃ t, T2 t ∧ HS B H [] W [(2, t), (1, t1), (0, .nil)] ∧ Below B w W) := by
  have hB := h.le.1
  refine line_any (x := 100) (l := [114, 111, 112, 32, 97]) (s := [118, 101, 114, 115, 105, 111, 110, 32, 50, 10]) (ws := [drpW, [97]]) (R := fun W => ∃ t, T2 t ∧ HS B H [] W [(2, t), (1, t1), (0, .nil)] ∧ Below B w W) h.made h.le.2.1 hL.here (by decide) (by decide) (by decide) (by decide) (by decide) (by decide) (fun W g hb hg hl => ?_)
  have hLW := (hL.next (hb.mono hB))
  have hBW := Nat.le_trans hB hb.size
  refine (do_any (i := 28) (name := drpW) (form := [119, 43]) (fn := 95) (ks := [[119, 43]]) (st := st3) (Q := HCom B H 1 [] [(1, t1), (0, .nil)] T2 W) hLW.here hl rfl (by decide) (by decide) (by decide) rfl rfl (by decide) (by decide) (by decide) rfl (fun i k hk => ?_) rfl (by decide) (fun i => ?_) (fun _ _ => by kernel_rfl) (fun V v1 v2 base hbV hbs r1 r2 hr => ?_)).mono ?_
  · rcases i with _ | i
    · simp at hk
      subst hk
      refine .inr (.inr (.inr ⟨rfl, by simp [st3], rfl, fun x hx => ?_⟩))
      simp only [st3, List.mem_cons, List.not_mem_nil, or_false] at hx
      subst hx
      exact num_not (by decide) (by decide)
    · simp at hk
  · rcases i with _ | i <;> simp [st3]
  · obtain ⟨g1, c1, rfl, _, _⟩ := World.ownsRow.form r1 (by decide)
    have hlV := hLW.next (hbV.mono hBW)
    have hsV : HS B H [W.heap.size] V [(1, t1), (0, .nil)] := h.below (hb.trans (hbV.mono hb.size)) (fun p hp => by simp at hp; subst hp; exact .inr ⟨hb.size, hr.lt⟩)
    exact (drop_house hsV ht1 hlV (lies_row2 r1)).mono fun e w' q => cmd_com hbV hBW hr q
  · rintro e W' ⟨v, t, f, rfl, hr, ht, hs, hb2, _⟩
    refine ⟨v, rfl, (rep_text (s := [118, 101, 114, 115, 105, 111, 110, 32, 50, 10]) (row_v2 ▸ hr) (by decide) (by decide) (by decide)).mono fun e W3 ⟨h1, h2⟩ => ⟨h1, t.asg f, ht.asg f, ?_, ?_⟩⟩
    · exact hs.below h2 (by simp)
    · exact (hb.mono hB).trans (hb2.trans (h2.mono hs.le.1))
def st4 : Nat → RSt
  | 0 => ([[49], [50]], [], [])
  | 1 => ([[50]], [], [1])
  | _ => ([], [], [1, 2])
def diffW : List UInt8 := [100, 105, 102, 102]
set_option maxRecDepth 100000 in
theorem line_diff {w : World} {B H : Nat} {t1 t2 : Tr} (h : HS B H [] w [(2, t2), (1, t1), (0, .nil)]) (ht1 : T1 t1) (ht2 : T2 t2) (hL : LibB B w) :
    Calls Tryz.prog 6 #[.pointer (some ⟨H, 0, none⟩), .string ⟨#[100, 105, 102, 102, 32, 49, 32, 50]⟩] w (fun e W => e = .returned (.string ⟨#[100, 114, 111, 112, 32, 97, 10]⟩) ∧ HS B H [] W [(2, t2), (1, t1), (0, .nil)] ∧ Below B w W) := by
  have hB := h.le.1
  refine line_any (x := 100) (l := [105, 102, 102, 32, 49, 32, 50]) (s := [100, 114, 111, 112, 32, 97, 10]) (ws := [diffW, [49], [50]]) (R := fun W => HS B H [] W [(2, t2), (1, t1), (0, .nil)] ∧ Below B w W) h.made h.le.2.1 hL.here (by decide) (by decide) (by decide) (by decide) (by decide) (by decide) (fun W g hb hg hl => ?_)
  have hLW := (hL.next (hb.mono hB))
  refine (do_any (i := 31) (name := diffW) (form := [110, 32, 110]) (fn := 98) (ks := [[110], [110]]) (st := st4) (Q := fun e W' => ∃ v, e = .returned v ∧ RepOk W.heap.size [dropW ++ [97]] W' v ∧ Below W.heap.size W W') hLW.here hl rfl (by decide) (by decide) (by decide) rfl rfl (by decide) (by decide) (by decide) rfl (fun i k hk => ?_) rfl (by decide) (fun i => ?_) (fun _ _ => by kernel_rfl) (fun V v1 v2 base hbV hbs r1 r2 hr => ?_)).mono ?_
  · rcases i with _ | _ | i
    · simp at hk; subst hk; exact .inr (.inl ⟨rfl, _, _, 1, rfl, rfl, num_yes hLW.here (by decide) (by decide) (by decide)⟩)
    · simp at hk; subst hk; exact .inr (.inl ⟨rfl, _, _, 2, rfl, rfl, num_yes hLW.here (by decide) (by decide) (by decide)⟩)
    · simp at hk
  · rcases i with _ | _ | i <;> simp [st4]
  · obtain ⟨g2, c2, rfl, _, _⟩ := World.ownsRow.form r2 (by decide)
    have hsV : HS B H [] V [(2, t2), (1, t1), (0, .nil)] := h.below (hb.trans (hbV.mono hb.size)) (by simp)
    exact (diff_house hsV ht1 ht2 (lies_row2 r2)).mono fun e w' q => cmd_below hbV hr q
  · rintro e W' ⟨v, rfl, hr, hb2⟩
    refine ⟨v, rfl, (rep_text (s := [100, 114, 111, 112, 32, 97, 10]) hr (by decide) (by decide) (by decide)).mono fun e W3 ⟨h1, h2⟩ => ⟨h1, ?_, ?_⟩⟩
    · exact h.below (hb.trans ((hb2.mono hb.size).trans (h2.mono (Nat.le_trans hb.size hb2.size)))) (by simp)
    · exact (hb.trans ((hb2.mono hb.size).trans (h2.mono (Nat.le_trans hb.size hb2.size)))).mono hB
def st5 : Nat → RSt := fun _ => ([], [], [])
def faceW : List UInt8 := [102, 97, 99, 101]
set_option maxRecDepth 100000 in
theorem line_face {w : World} {B H : Nat} {xs : List (Nat × Tr)} (h : HS B H [] w xs) (hL : LibB B w) :
    Calls Tryz.prog 6 #[.pointer (some ⟨H, 0, none⟩), .string ⟨#[102, 97, 99, 101]⟩] w (fun e W => e = .returned (.string ⟨#[33, 32, 55, 10]⟩) ∧ Below B w W) := by
  have hB := h.le.1
  refine line_any (x := 102) (l := [97, 99, 101]) (s := [33, 32, 55, 10]) (ws := [faceW]) (R := fun W => Below B w W) h.made h.le.2.1 hL.here (by decide) (by decide) (by decide) (by decide) (by decide) (by decide) (fun W g hb hg hl => ?_)
  have hLW := (hL.next (hb.mono hB))
  have hBW := Nat.le_trans hB hb.size
  refine (do_any (i := 11) (name := faceW) (form := []) (fn := 78) (ks := []) (st := st5) (Q := fun e W' => e = .returned (.agg #[.slice none 0 0, .int .i64 7]) ∧ Below W.heap.size W W') hLW.here hl rfl (by decide) (by decide) (by decide) rfl rfl (by decide) (by decide) (by decide) rfl (fun i k hk => ?_) rfl (by decide) (fun i => ?_) (fun _ _ => by kernel_rfl) (fun V v1 v2 base hbV hbs r1 r2 hr => ?_)).mono ?_
  · simp at hk
  · simp [st5]
  · have hsV : HS B H [] V xs := h.below (hb.trans (hbV.mono hb.size)) (by simp)
    obtain ⟨S, D, R, M, K, c, X, cur, q1, _⟩ := hsV
    refine (shown_none q1 ⟨v1, v2, _, rfl⟩).mono fun e w' ⟨h1, h2⟩ => ?_
    subst h1
    refine ⟨_, _, _, _, rfl, hr.below h2, fun W' hW _ => ⟨rfl, ?_⟩⟩
    rw [hW]
    exact ((hbV.trans (h2.mono hbV.size)).setCell (p := ⟨W.heap.size, 0, none⟩) (Nat.le_refl _) _).setCell (p := ⟨W.heap.size, 1, none⟩) (Nat.le_refl _) _
  · rintro e W' ⟨rfl, hb2⟩
    refine ⟨_, rfl, (text_7 ((hLW.next (hb2.mono hBW)).here)).mono fun e W3 ⟨h1, h2⟩ => ⟨h1, ?_⟩⟩
    exact (hb.trans ((hb2.mono hb.size).trans (h2.mono (Nat.le_trans hb.size hb2.size)))).mono hB
end Go.Proofs.YtbkgbkmpalbdpaaGreatDoor

namespace Go.Proofs.YtbkgbkmpalbdpaaGreatDoor
open Go.RowKit Go.Lib

theorem hs_new {w w' : World} {e : Ending} (h : RetNew (List.range w.heap.size) w e w') : ∃ H, e = .returned (.pointer (some ⟨H, 0, none⟩)) ∧ HS w.heap.size H [] w' [(0, .nil)] ∧ Below w.heap.size w w' := by
  obtain ⟨H, S, D, R, M, K, rfl, hH, hh, hs, hb⟩ := h
  have hr : ∀ x, x ∉ H :: List.range w.heap.size → w.heap.size ≤ x := fun x hx => by
    simp only [List.mem_cons, List.mem_range, not_or] at hx
    omega
  have hd := hs.dk.notX
  refine ⟨H, rfl, ⟨S, D, R, M, K, 1, H :: List.range w.heap.size, _, hh, ⟨hs, fun x hx => ?_, by simp⟩, fun x hx => ?_, by simp, by simp, by simp, fun x hx p hp => ?_, hr S hs.notX.1, ?_, ?_, ?_⟩, hb⟩
  · simp at hx; subst hx; exact TrK.nil _ _
  · simp only [List.mem_cons, List.mem_range] at hx
    rcases hx with rfl | hx
    · exact Blk.lt hh
    · exact Nat.lt_of_lt_of_le hx hb.size
  · simp at hx; subst hx; cases hp
  · exact hr D (fun q => hd.1 (by simp only [List.mem_cons] at q ⊢; exact .inr (.inr q)))
  · exact hr R (fun q => hd.2.1 (by simp only [List.mem_cons] at q ⊢; exact .inr (.inr q)))
  · exact hr M (fun q => hd.2.2 (by simp only [List.mem_cons] at q ⊢; exact .inr (.inr q)))
set_option maxRecDepth 100000 in
set_option maxHeartbeats 3200000 in
theorem lives_ok {w : World} (hL : LibB w.heap.size w) : Calls Tryz.prog 13 #[] w (fun e w' => e = .returned (.bool true) ∧ Below w.heap.size w w') := by
  have c0 := new_any (X := List.range w.heap.size) (w := w) (by simp)
  have HL := Lib.hid hL
  clear hL
  go_enter Tryz.func13, Tryz.ntmps13
  go_wp2_with fail
  refine c0.mono ?_
  intro e V0 h0
  obtain ⟨H, rfl, hs0, hb0⟩ := hs_new h0
  have c1 := line_between hs0 (HL.out.next hb0)
  clear c0 h0
  go_wp2_with fail
  refine c1.mono ?_
  rintro e V1 ⟨rfl, hs1, hb1⟩
  have hb1 := hb0.trans hb1
  have c1 := line_put hs1 (HL.out.next hb1)
  clear hs0 hb0
  go_wp2_with fail
  refine c1.mono ?_
  rintro e V2 ⟨rfl, t1, ht1, hs2, hb2⟩
  have hb2 := hb1.trans hb2
  have c1 := line_drop hs2 ht1 (HL.out.next hb2)
  clear hs1 hb1
  go_wp2_with fail
  refine c1.mono ?_
  rintro e V3 ⟨rfl, t2, ht2, hs3, hb3⟩
  have hb3 := hb2.trans hb3
  have c1 := line_diff hs3 ht1 ht2 (HL.out.next hb3)
  clear hs2 hb2
  go_wp2_with fail
  refine c1.mono ?_
  rintro e V4 ⟨rfl, hs4, hb4⟩
  have hb4 := hb3.trans hb4
  have c1 := line_face hs4 (HL.out.next hb4)
  clear hs3 hb3
  go_wp2_with fail
  refine c1.mono ?_
  rintro e V5 ⟨rfl, hb5⟩
  have hb5 := hb4.trans hb5
  clear c1 hs4 hb4
  go_wp2
  go_ret
  exact ⟨rfl, hb5⟩
end Go.Proofs.YtbkgbkmpalbdpaaGreatDoor

namespace Go.Proofs.YtbkgbkmpalbdpaaGreatDoor
open Go.RowKit Go.Lib

def zeroH : Array Value := #[.bool false, .slice none 0 0, .pointer none, .slice none 0 0, .slice none 0 0, .slice none 0 0, .pointer none, .slice none 0 0, .slice none 0 0, .slice none 0 0, .pointer none, .pointer none]
set_option maxRecDepth 100000 in
set_option maxHeartbeats 3200000 in
theorem nobody_ok {w : World} {s : ByteArray} (hL : LibB w.heap.size w) : Calls Tryz.prog 4 #[.string s] w (fun e w' => e = .returned (.bool true) ∧ Below w.heap.size w w') := by
  have HL := Lib.hid hL
  clear hL
  go_enter Tryz.func4, Tryz.ntmps4
  go_wp2
  obtain ⟨A, hA⟩ : ∃ A, w.heap.size = A := ⟨_, rfl⟩
  obtain ⟨W0, hW0⟩ : ∃ W0, W0 = (w.alloc (.cells #[.bool false, .slice none 0 0, .pointer none, .slice none 0 0, .slice none 0 0, .slice none 0 0, .pointer none, .slice none 0 0, .slice none 0 0, .slice none 0 0, .pointer none, .pointer none] 51)).alloc (.cells #[.pointer none, .pointer (some ⟨w.heap.size, 0, none⟩)] 24) := ⟨_, rfl⟩
  have hb0 : Below w.heap.size w W0 := by rw [hW0]; exact ((Below.refl _ _).alloc (Nat.le_refl _) _).alloc (by simp) _
  have ha : Blk W0 A zeroH 51 := by rw [hW0, ← hA]; exact (Blk.new w _ _).below ((Below.refl _ _).alloc (Nat.le_refl _) _)
  have hr : Blk W0 (A + 1) #[.pointer none, .pointer (some ⟨A, 0, none⟩)] 24 := by
    have e : (w.alloc (.cells zeroH 51)).heap.size = A + 1 := by simp [hA]
    rw [hW0, ← e, hA]; exact Blk.new _ _ _
  have HB0 := Lib.hid hb0
  have HAB := Lib.hid ha
  have HR := Lib.hid hr
  rw [← hW0, hA]
  clear hW0 hb0 ha hr
  go_loopw [11] (fun s11 wr => ∃ i : Nat, i ≤ 2 ∧ s11 = .int .i64 (i : Int) ∧ Below W0.heap.size W0 wr) (fun s11 _ => 2 - (intOf s11).toNat)
  case atStart => exact ⟨0, Nat.zero_le _, rfl, Below.refl _ _⟩
  case round =>
    obtain ⟨i, hi, rfl, hbw⟩ := hrel
    have HBW := Lib.hid hbw
    have HWR := Lib.hid (HB0.out.trans (hbw.mono HB0.out.size))
    clear hbw
    by_cases hlt : i < 2
    · have r0 := (HR.out.below HBW.out).cell 0
      have r1 := (HR.out.below HBW.out).cell 1
      have hi0 : (0 : Int) ≤ (i : Int) := by omega
      have hi2 : (i : Int) < 2 := by omega
      rcases (show i = 0 ∨ i = 1 by omega) with rfl | rfl
      · skip
        have cl := line_nil (w := wr) (s := s) (HL.out wr HWR.out)
        go_wp2_with fail
        refine cl.mono ?_
        rintro e V1 ⟨rfl, hb1⟩
        have HB1 := Lib.hid hb1
        have cp := pairs_nil (w := V1)
        clear cl hb1
        go_wp2_with fail
        refine cp.mono ?_
        rintro e V2 ⟨rfl, rfl⟩
        have cc := clone_nil (w := V1)
        clear cp
        go_wp2_with fail
        refine cc.mono ?_
        rintro e V3 ⟨rfl, rfl⟩
        clear cc
        go_wp2
        go_roundw
        case rel => exact ⟨1, by omega, rfl, HBW.out.trans (HB1.out.mono HBW.out.size)⟩
        case measure => simp [intOf]
      · skip
        have hz := (HAB.out.below HBW.out).cell 0
        have cl := line_un (w := wr) (s := s) hz (HL.out wr HWR.out)
        go_wp2_with fail
        refine cl.mono ?_
        rintro e V1 ⟨rfl, hb1⟩
        have HB1 := Lib.hid hb1
        have cp := pairs_un (w := V1) ((HAB.out.below (HBW.out.trans (HB1.out.mono HBW.out.size))).cell 0)
        clear cl hb1
        go_wp2_with fail
        refine cp.mono ?_
        rintro e V2 ⟨rfl, rfl⟩
        have cc := clone_un (w := V1) ((HAB.out.below (HBW.out.trans (HB1.out.mono HBW.out.size))).cell 0)
        clear cp
        go_wp2_with fail
        refine cc.mono ?_
        rintro e V3 ⟨rfl, rfl⟩
        clear cc
        go_wp2
        go_roundw
        case rel => exact ⟨2, by omega, rfl, HBW.out.trans (HB1.out.mono HBW.out.size)⟩
        case measure => simp [intOf]
    · obtain rfl : i = 2 := by omega
      have cl := lives_ok (w := wr) (fun W g => HL.out W (HWR.out.trans (g.mono HWR.out.size)))
      go_wp2_with fail
      refine cl.mono ?_
      rintro e V ⟨rfl, hb⟩
      have hbb := HWR.out.trans (hb.mono HWR.out.size)
      clear cl hb
      go_wp2
      go_ret
      exact ⟨rfl, hbb⟩
end Go.Proofs.YtbkgbkmpalbdpaaGreatDoor
