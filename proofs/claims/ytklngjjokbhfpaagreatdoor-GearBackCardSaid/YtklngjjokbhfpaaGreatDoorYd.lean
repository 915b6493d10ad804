/- ref's number (printed by genyd.py). -/
import Derived.Test.YtklngjjokbhfpaaGreatDoorYb
import Derived.Test.YtklngjjokbhfpaaGreatDoorCj
import Derived.Test.YtklngjjokbhfpaaGreatDoorLz
namespace Go.Proofs.YtklngjjokbhfpaaGreatDoor
open Go.RowKit Go.Lib

theorem IsR.stored' {w : World} {v : Value} {z : Int} {N R : Nat} {b : Bool} {A : Option Addr} {n c : Nat} {u0 u1 : Value} {t : TypeId} (h : IsR w v z N) (hR : Two w R (.bool b) (.slice A n c) t) : IsR ((w.setCell ⟨R, 0, none⟩ u0).setCell ⟨R, 1, none⟩ u1) v z N :=
  h.put hR (fun off x h => by rcases off with _ | _ | off <;> simp at h) (by simp [World.setCell]) fun k hk => by rw [Below.heap_setCell _ _ _ _ (by simpa using hk), Below.heap_setCell _ _ _ _ (by simpa using hk)]
theorem pow_le100 {k : Nat} (h : k ≤ 100) : (10 : Nat) ^ k ≤ 10 ^ 100 := Nat.pow_le_pow_right (by omega) h
theorem numV_cons (a : Nat) (c : UInt8) (r : List UInt8) : numV a (c :: r) = if isDig c then numV (a * 10 + (c.toNat - 48)) r else (a, false) := rfl
/-- What number returns. -/
def RetN (l : List UInt8) (w : World) (e : Ending) (w' : World) : Prop := ∃ v, e = .returned (.tuple #[v, .bool (numM l).2]) ∧ IsR w' v ((numM l).1 : Int) 25 ∧ Below w.heap.size w w'
set_option maxRecDepth 100000 in
set_option maxHeartbeats 3200000 in
theorem rnumber_any (l : List UInt8) (w : World) (hl : l.length ≤ 100) : Calls Tryz.prog 29 #[.string ⟨l.toArray⟩] w (RetN l w) := by
  have ci0 : ∀ W (_ : Below w.heap.size w W), Calls Tryz.prog 20 #[.int .i64 0] W (RetR 0 5 W) := fun W _ => rint_any 0 W (by unfold I64; omega)
  obtain ⟨W3, hW3⟩ : ∃ W3, W3 = w.alloc (.cells #[.bool false, .slice none 0 0] 43) := ⟨_, rfl⟩
  have hB : Below w.heap.size w W3 := by rw [hW3]; exact (Below.refl _ _).alloc (Nat.le_refl _) _
  have HBW := Lib.hid hB
  have HR := Lib.hid (show Two W3 w.heap.size (.bool false) (.slice none 0 0) 43 by rw [hW3]; exact Two.newAt _ _ _ _ _ rfl)
  clear hB
  have HL := Lib.hid hl
  go_enter Tryz.func29, Tryz.ntmps29
  go_upto_region 1 with fail
  rw [← hW3]
  clear hW3
  have cc := ci0 W3 HBW.out
  go_wp2_with fail
  refine cc.mono ?_
  rintro e V1 ⟨v1, rfl, hm, hn1⟩
  obtain ⟨neg, A, n, c, m, rfl, -⟩ := IsR.open' hm
  obtain ⟨p, rfl⟩ : ∃ p : Bool × Unit, neg = p.1 := ⟨(_, ()), rfl⟩
  have HB1 := Lib.hid (HBW.out.trans (hn1.mono HBW.out.size))
  have HR1 := Lib.hid (HR.out.below hn1 HR.out.lt)
  have HM := Lib.hid hm
  clear cc hn1 hm HBW HR ci0
  obtain ⟨N, hN⟩ : ∃ N, N = V1.heap.size := ⟨_, rfl⟩
  obtain ⟨U, hU⟩ : ∃ U, U = V1.alloc (.cells #[.bool p.1, .slice A n c] 43) := ⟨_, rfl⟩
  have HU := Lib.hid (And.intro hU hN)
  clear hU hN
  go_upto_region 2 with fail
  rw [← HU.out.2, ← HU.out.1]
  have hu : Below V1.heap.size V1 U := by rw [HU.out.1]; exact (Below.refl _ _).alloc (Nat.le_refl _) _
  have HB2 := Lib.hid (HB1.out.trans (hu.mono HB1.out.size))
  have HR2 := Lib.hid (HR1.out.below hu HR1.out.lt)
  have HX := Lib.hid (show Two U N (.bool p.1) (.slice A n c) 43 by rw [HU.out.1]; exact Two.newAt _ _ _ _ _ HU.out.2)
  have HZ := Lib.hid (IsR.more (IsR.below HM.out hu) (show 5 ≤ 25 by omega))
  have HN := Lib.hid (show w.heap.size < N by rw [HU.out.2]; exact HR1.out.lt)
  clear hu HU HB1 HR1 HM
  go_wp2_with fail
  go_loopw [5] (fun i wr => ∃ (k z : Nat) (p : Bool × Unit) (A : Option Addr) (n c : Nat), k ≤ l.length ∧ i = .int .i64 (k : Int) ∧ numV 0 l = numV z (l.drop k) ∧ z < 10 ^ k ∧ Two wr N (.bool p.1) (.slice A n c) 43 ∧ IsR wr (.agg #[.bool p.1, .slice A n c]) (z : Int) 25 ∧ Two wr w.heap.size (.bool false) (.slice none 0 0) 43 ∧ Below w.heap.size w wr) (fun i _ => l.length - (intOf i).toNat)
  case atStart => exact ⟨0, 0, p, A, n, c, by omega, rfl, by simp, by simp, HX.out, HZ.out, HR2.out, HB2.out⟩
  case round =>
    clear HX HZ HR2 HB2
    obtain ⟨k, z, p, A, n, c, hk, rfl, hv, hz, hX, hZ, hR, hB⟩ := hrel
    have HV := Lib.hid hv
    have HZB := Lib.hid hz
    have HX := Lib.hid hX
    have HZ := Lib.hid hZ
    have HR := Lib.hid hR
    have HB := Lib.hid hB
    clear hv hz hX hZ hR hB
    by_cases hkl : k < l.length
    · have i1 : (0 : Int) ≤ (k : Int) := by omega
      have i2 : (k : Int) < (l.length : Int) := by omega
      have i3 : (k : Int) ≤ 100 := by have := HL.out; omega
      obtain ⟨ch, hch⟩ : ∃ ch, l[k] = ch := ⟨_, rfl⟩
      obtain ⟨q, hq'⟩ : ∃ q, ch.toNat = q := ⟨_, rfl⟩
      have hq : ((⟨l.toArray⟩ : ByteArray)[k]'(by show k < l.toArray.size; simpa using hkl)).toNat = q := by
        rw [← hq', ← hch]
        rfl
      have hdr : l.drop k = ch :: l.drop (k + 1) := by rw [← hch]; exact List.drop_eq_getElem_cons hkl
      have hnv := HV.out
      rw [hdr, numV_cons, hq'] at hnv
      have hdg : isDig ch ↔ 48 ≤ q ∧ q ≤ 57 := by unfold isDig; rw [hq']
      have HNV := Lib.hid hnv
      have HDG := Lib.hid hdg
      clear hch hq' hdr hnv hdg
      by_cases hd : 48 ≤ q ∧ q ≤ 57
      · obtain ⟨hd1, hd2⟩ := hd
        have d1 : decide ((q : Int) < 48) = false := decide_eq_false (by omega)
        have d2 : decide ((57 : Int) < (q : Int)) = false := decide_eq_false (by omega)
        have d3 : (48 : Int) ≤ (q : Int) := by omega
        have d4 : (q : Int) ≤ 57 := by omega
        have d5 : IntKind.u8.wrap ((q : Int) - 48) = (q : Int) - 48 := by rw [IntKind.wrap_u8]; omega
        have d6 : IntKind.i64.wrap ((q : Int) - 48) = (q : Int) - 48 := by rw [IntKind.wrap_i64]; omega
        have hnv := HNV.out
        rw [if_pos (HDG.out.2 ⟨hd1, hd2⟩)] at hnv
        have HNV2 := Lib.hid hnv
        have hzz : z * 10 + (q - 48) < 10 ^ (k + 1) := by have := HZB.out; rw [Nat.pow_succ]; omega
        have hz100 : z * 10 + (q - 48) < 10 ^ 100 := Nat.lt_of_lt_of_le hzz (pow_le100 (by have := HL.out; omega))
        have HZZ := Lib.hid (And.intro hzz hz100)
        clear hnv hzz hz100 HNV
        go_upto_region 7 with fail
        have ci10 : ∀ W (_ : Below w.heap.size w W), Calls Tryz.prog 20 #[.int .i64 10] W (RetR 10 5 W) := fun W _ => rint_any 10 W (by unfold I64; omega)
        have cid : ∀ W (_ : Below w.heap.size w W), Calls Tryz.prog 20 #[.int .i64 ((q : Int) - 48)] W (RetR ((q : Int) - 48) 5 W) := fun W _ => rint_any _ W (by unfold I64; omega)
        have cmu : ∀ W (_ : Below w.heap.size w W) u v, IsR W u (z : Int) 25 → IsR W v 10 5 → Calls Tryz.prog 53 #[u, v] W (RetR ((z : Int) * 10) 31 W) := fun W _ u v h1 h2 => rmul_any (N := 25) (M := 5) h1 h2 (by omega) (by omega)
        have cad : ∀ W (_ : Below w.heap.size w W) u v, IsR W u ((z : Int) * 10) 31 → IsR W v ((q : Int) - 48) 5 → Calls Tryz.prog 52 #[u, v] W (RetR ((z : Int) * 10 + ((q : Int) - 48)) 32 W) := fun W _ u v h1 h2 => radd_any (N := 31) (M := 5) h1 h2 (by omega) (by omega)
        refine Lex.wp_region_mix (fun w' => True)
          [(0, 24), (1, 25), (2, 26), (3, 27), (4, 28), (5, 29), (6, 30), (7, 31), (8, 32), (9, 33)] (fun j => j == 3 || j == 4 || j == 5 || j == 6 || j == 7) (fun j => false) [(10, false)]
          (fun i v w' => match i with | 0 => v = .agg #[.bool p.1, .slice A n c] | 1 => IsR w' v 10 5 | 2 => IsR w' v ((z : Int) * 10) 31 | 3 => v = .string ⟨l.toArray⟩ | 4 => v = .int .i64 (k : Int) | 5 => v = .int .u8 (q : Int) | 6 => v = .int .u8 ((q : Int) - 48) | 7 => v = .int .i64 ((q : Int) - 48) | 8 => IsR w' v ((q : Int) - 48) 5 | 9 => IsR w' v ((z : Int) * 10 + ((q : Int) - 48)) 32 | _ => False)
          (by kernel_rfl) (by kernel_rfl) (by kernel_rfl) trivial (fun w1 w2 hS hb => trivial) ?_ ?_ ?_
        · refine Lex.all_cons ?_ (Lex.all_cons ?_ (Lex.all_cons ?_ (Lex.all_cons ?_ (Lex.all_cons ?_ (Lex.all_cons ?_ (Lex.all_cons ?_ (Lex.all_cons ?_ (Lex.all_cons ?_ (Lex.all_cons ?_ (Lex.all_nil))))))))))
          · exact fun v w1 w2 h _ => h
          · exact fun v w1 w2 h hb => IsR.below h hb
          · exact fun v w1 w2 h hb => IsR.below h hb
          · exact fun v w1 w2 h _ => h
          · exact fun v w1 w2 h _ => h
          · exact fun v w1 w2 h _ => h
          · exact fun v w1 w2 h _ => h
          · exact fun v w1 w2 h _ => h
          · exact fun v w1 w2 h hb => IsR.below h hb
          · exact fun v w1 w2 h hb => IsR.below h hb
        · refine Lex.all_cons ?_ (Lex.all_cons ?_ (Lex.all_cons ?_ (Lex.all_cons ?_ (Lex.all_cons ?_ (Lex.all_cons ?_ (Lex.all_cons ?_ (Lex.all_cons ?_ (Lex.all_cons ?_ (Lex.all_cons ?_ (Lex.all_nil))))))))))
          · refine Lex.ob_step rfl rfl rfl (fun σ w1 hS hB hg K hK => ?_)
            have HK := Lib.hid hK
            clear hK
            clear hg
            simp only [Lex.full, Act.put, List.setIfInBounds_toArray, List.set_cons_zero, List.set_cons_succ]
            have hbw : Below wr.heap.size wr w1 := ⟨hB.os, hB.tape, hB.output, hB.size, hB.block⟩
            have k0 := (HX.out.below hbw HX.out.lt).cell0
            have k1 := (HX.out.below hbw HX.out.lt).cell1
            go_wp2_with fail
            exact HK.out _ _ ⟨rfl, Below.refl _ _, rfl, fun h => nomatch h⟩
          · refine Lex.ob_step rfl rfl rfl (fun σ w1 hS hB hg K hK => ?_)
            have HK := Lib.hid hK
            clear hK
            clear hg
            simp only [Lex.full, Act.put, List.setIfInBounds_toArray, List.set_cons_zero, List.set_cons_succ]
            have hw1 : Below w.heap.size w w1 := HB.out.drew.trans (hB.mono HB.out.size)
            have cc := ci10 w1 hw1
            go_wp2_with fail
            refine cc.mono ?_
            rintro e w2 ⟨v1, rfl, hm, hn⟩
            clear cc
            go_wp2_with fail
            exact HK.out _ _ ⟨rfl, hn, hm, fun h => nomatch h⟩
          · refine Lex.ob_step rfl rfl rfl (fun σ w1 hS hB hg K hK => ?_)
            have HK := Lib.hid hK
            clear hK
            have g0 : (σ 0) = .agg #[.bool p.1, .slice A n c] := hg (0, 24) (by simp) (by kernel_rfl)
            have g1 : IsR w1 (σ 1) 10 5 := hg (1, 25) (by simp) (by kernel_rfl)
            clear hg
            have hbw : Below wr.heap.size wr w1 := ⟨hB.os, hB.tape, hB.output, hB.size, hB.block⟩
            simp only [Lex.full, Act.put, List.setIfInBounds_toArray, List.set_cons_zero, List.set_cons_succ]
            simp only [g0]
            have hw1 : Below w.heap.size w w1 := HB.out.drew.trans (hB.mono HB.out.size)
            have cc := cmu w1 hw1 _ _ (IsR.below HZ.out hbw) g1
            go_wp2_with fail
            refine cc.mono ?_
            rintro e w2 ⟨v1, rfl, hm, hn⟩
            clear cc
            go_wp2_with fail
            exact HK.out _ _ ⟨rfl, hn, hm, fun h => nomatch h⟩
          · refine Lex.ob_eager rfl rfl (fun σ w1 hS hB hg => ⟨.string ⟨l.toArray⟩, rfl, fun w2 hS => ?_, rfl⟩)
            clear hg
            simp only [Lex.full, Act.put, List.setIfInBounds_toArray, List.set_cons_zero, List.set_cons_succ]
            clear hS
            go_simp
            all_goals with_reducible rfl
          · refine Lex.ob_eager rfl rfl (fun σ w1 hS hB hg => ⟨.int .i64 (k : Int), rfl, fun w2 hS => ?_, rfl⟩)
            clear hg
            simp only [Lex.full, Act.put, List.setIfInBounds_toArray, List.set_cons_zero, List.set_cons_succ]
            clear hS
            go_simp
            all_goals with_reducible rfl
          · refine Lex.ob_eager rfl rfl (fun σ w1 hS hB hg => ⟨.int .u8 (q : Int), rfl, fun w2 hS => ?_, rfl⟩)
            have g3 : (σ 3) = .string ⟨l.toArray⟩ := hg (3, 27) (by simp) (by kernel_rfl)
            have g4 : (σ 4) = .int .i64 (k : Int) := hg (4, 28) (by simp) (by kernel_rfl)
            clear hg
            simp only [Lex.full, Act.put, List.setIfInBounds_toArray, List.set_cons_zero, List.set_cons_succ]
            clear hS
            simp only [g3, g4]
            go_simp
            all_goals with_reducible rfl
          · refine Lex.ob_eager rfl rfl (fun σ w1 hS hB hg => ⟨.int .u8 ((q : Int) - 48), rfl, fun w2 hS => ?_, rfl⟩)
            have g5 : (σ 5) = .int .u8 (q : Int) := hg (5, 29) (by simp) (by kernel_rfl)
            clear hg
            simp only [Lex.full, Act.put, List.setIfInBounds_toArray, List.set_cons_zero, List.set_cons_succ]
            clear hS
            simp only [g5]
            go_simp
            all_goals with_reducible rfl
          · refine Lex.ob_eager rfl rfl (fun σ w1 hS hB hg => ⟨.int .i64 ((q : Int) - 48), rfl, fun w2 hS => ?_, rfl⟩)
            have g6 : (σ 6) = .int .u8 ((q : Int) - 48) := hg (6, 30) (by simp) (by kernel_rfl)
            clear hg
            simp only [Lex.full, Act.put, List.setIfInBounds_toArray, List.set_cons_zero, List.set_cons_succ]
            clear hS
            simp only [g6]
            go_simp
            all_goals with_reducible rfl
          · refine Lex.ob_step rfl rfl rfl (fun σ w1 hS hB hg K hK => ?_)
            have HK := Lib.hid hK
            clear hK
            have g7 : (σ 7) = .int .i64 ((q : Int) - 48) := hg (7, 31) (by simp) (by kernel_rfl)
            clear hg
            simp only [Lex.full, Act.put, List.setIfInBounds_toArray, List.set_cons_zero, List.set_cons_succ]
            simp only [g7]
            have hw1 : Below w.heap.size w w1 := HB.out.drew.trans (hB.mono HB.out.size)
            have cc := cid w1 hw1
            go_wp2_with fail
            refine cc.mono ?_
            rintro e w2 ⟨v1, rfl, hm, hn⟩
            clear cc
            go_wp2_with fail
            exact HK.out _ _ ⟨rfl, hn, hm, fun h => nomatch h⟩
          · refine Lex.ob_step rfl rfl rfl (fun σ w1 hS hB hg K hK => ?_)
            have HK := Lib.hid hK
            clear hK
            have g2 : IsR w1 (σ 2) ((z : Int) * 10) 31 := hg (2, 26) (by simp) (by kernel_rfl)
            have g8 : IsR w1 (σ 8) ((q : Int) - 48) 5 := hg (8, 32) (by simp) (by kernel_rfl)
            clear hg
            simp only [Lex.full, Act.put, List.setIfInBounds_toArray, List.set_cons_zero, List.set_cons_succ]
            have hw1 : Below w.heap.size w w1 := HB.out.drew.trans (hB.mono HB.out.size)
            have cc := cad w1 hw1 _ _ g2 g8
            go_wp2_with fail
            refine cc.mono ?_
            rintro e w2 ⟨v1, rfl, hm, hn⟩
            clear cc
            go_wp2_with fail
            exact HK.out _ _ ⟨rfl, hn, hm, fun h => nomatch h⟩
        · intro σ V hS hB hg hd
          have e0 : (σ 0) = .agg #[.bool p.1, .slice A n c] := hg (0, 24) (by simp)
          have e1 : IsR V (σ 1) 10 5 := hg (1, 25) (by simp)
          have e2 : IsR V (σ 2) ((z : Int) * 10) 31 := hg (2, 26) (by simp)
          have e3 : (σ 3) = .string ⟨l.toArray⟩ := hg (3, 27) (by simp)
          have e4 : (σ 4) = .int .i64 (k : Int) := hg (4, 28) (by simp)
          have e5 : (σ 5) = .int .u8 (q : Int) := hg (5, 29) (by simp)
          have e6 : (σ 6) = .int .u8 ((q : Int) - 48) := hg (6, 30) (by simp)
          have e7 : (σ 7) = .int .i64 ((q : Int) - 48) := hg (7, 31) (by simp)
          have e8 : IsR V (σ 8) ((q : Int) - 48) 5 := hg (8, 32) (by simp)
          have e9 : IsR V (σ 9) ((z : Int) * 10 + ((q : Int) - 48)) 32 := hg (9, 33) (by simp)
          clear hg hd
          simp only [Lex.full, Act.put, List.setIfInBounds_toArray, List.set_cons_zero, List.set_cons_succ]
          generalize σ 0 = s0 at *
          generalize σ 1 = s1 at *
          generalize σ 2 = s2 at *
          generalize σ 3 = s3 at *
          generalize σ 4 = s4 at *
          generalize σ 5 = s5 at *
          generalize σ 6 = s6 at *
          generalize σ 7 = s7 at *
          generalize σ 8 = s8 at *
          generalize σ 9 = s9 at *
          clear σ
          subst e0
          clear e1
          clear e2
          subst e3
          subst e4
          subst e5
          subst e6
          subst e7
          clear e8
          have hz9 := e9
          have HBm := Lib.hid (show Below w.heap.size w V from HB.out.drew.trans (hB.mono HB.out.size))
          have HBb := Lib.hid (show Below wr.heap.size wr V from ⟨hB.os, hB.tape, hB.output, hB.size, hB.block⟩)
          have HSm := Lib.hid hS
          clear hB hS
          obtain ⟨neg9, A9, n9, c9, m9, rfl, -⟩ := IsR.open' hz9
          obtain ⟨p9, rfl⟩ : ∃ p : Bool × Unit, neg9 = p.1 := ⟨(_, ()), rfl⟩
          have HZ9 := Lib.hid hz9
          have HR9 := Lib.hid (HR.out.below HBb.out HR.out.lt)
          have HX9 := Lib.hid (HX.out.below HBb.out HX.out.lt)
          clear hz9 ci10 cid cmu cad HB HR HZ HX HBb
          refine Lex.lex_do rfl ?_
          have r0 := HX9.out.cell0
          have r1 := HX9.out.cell1
          have y0 := HX9.out.free 0
          have y1 := HX9.out.free 1
          obtain ⟨V2, hV2⟩ : ∃ V2, V2 = (V.setCell ⟨N, 0, none⟩ (.bool p9.1)).setCell ⟨N, 1, none⟩ (.slice A9 n9 c9) := ⟨_, rfl⟩
          have HV2 := Lib.hid hV2
          clear hV2
          go_wp2_with fail
          rw [← HV2.out]
          clear r0 r1 y0 y1
          have hX2 : Two V2 N (.bool p9.1) (.slice A9 n9 c9) 43 := by rw [HV2.out]; exact (HX9.out.set0 _).set1 _
          have hZ2 : IsR V2 (.agg #[.bool p9.1, .slice A9 n9 c9]) ((z : Int) * 10 + ((q : Int) - 48)) 32 := by rw [HV2.out]; exact IsR.stored' HZ9.out HX9.out
          have hR2 : Two V2 w.heap.size (.bool false) (.slice none 0 0) 43 := by rw [HV2.out]; exact (HR9.out.setOther ⟨N, 0, none⟩ _ (by dsimp only; have := HN.out; omega)).setOther ⟨N, 1, none⟩ _ (by dsimp only; have := HN.out; omega)
          have hB2 : Below w.heap.size w V2 := by rw [HV2.out]; exact (HBm.out.setCell (by dsimp only; have := HN.out; omega) _).setCell (by dsimp only; have := HN.out; omega) _
          have ez : (z : Int) * 10 + ((q : Int) - 48) = ((z * 10 + (q - 48) : Nat) : Int) := by omega
          rw [ez] at hZ2
          have hz100 := HZZ.out.2
          have hb25 : (DG.b4 : Int) ^ 25 = ((10 ^ 100 : Nat) : Int) := by unfold DG.b4; decide +kernel
          have hZ3 : IsR V2 (.agg #[.bool p9.1, .slice A9 n9 c9]) ((z * 10 + (q - 48) : Nat) : Int) 25 := hZ2.fit (by rw [hb25]; omega) (by rw [hb25]; exact_mod_cast hz100)
          have HFF := Lib.hid (And.intro hX2 (And.intro hZ3 (And.intro hR2 hB2)))
          clear hX2 hZ2 hR2 hB2 hZ3 hz100 hb25 ez HV2 HSm HX9 HZ9 HR9 HBm
          refine Lex.lexQ_normal (fun _ => trivial) ?_
          refine Lex.lex_nil ?_
          go_wp2
          go_roundw
          case rel => exact ⟨k + 1, z * 10 + (q - 48), p9, A9, n9, c9, by omega, by go_num, HNV2.out, HZZ.out.1, HFF.out.1, HFF.out.2.1, HFF.out.2.2.1, HFF.out.2.2.2⟩
          case measure => simp [intOf]; omega
      · have hnv := HNV.out
        rw [if_neg (fun h => hd (HDG.out.1 h))] at hnv
        have hnm : numM l = (z, false) := by unfold numM; rw [hnv]; simp
        have HNM := Lib.hid hnm
        clear hnv hnm
        by_cases h48 : (q : Int) < 48
        · have d1 : decide ((q : Int) < 48) = true := decide_eq_true h48
          clear hd
          have q0 := HX.out.cell0
          have q1 := HX.out.cell1
          have r0 := HR.out.cell0
          have r1 := HR.out.cell1
          have y0 := HR.out.free 0
          have y1 := HR.out.free 1
          go_wp2
          obtain ⟨V9, hV9⟩ : ∃ V9, V9 = (wr.setCell ⟨w.heap.size, 0, none⟩ (.bool p.1)).setCell ⟨w.heap.size, 1, none⟩ (.slice A n c) := ⟨_, rfl⟩
          rw [← hV9]
          have hT : Two V9 w.heap.size (.bool p.1) (.slice A n c) 43 := by rw [hV9]; exact (HR.out.set0 _).set1 _
          have hB9 : Below w.heap.size w V9 := by rw [hV9]; exact (HB.out.setCell (by dsimp only; omega) _).setCell (by dsimp only; omega) _
          have hZ9 : IsR V9 (.agg #[.bool p.1, .slice A n c]) (z : Int) 25 := by rw [hV9]; exact IsR.stored' HZ.out HR.out
          have c0 := hT.cell0
          have c1 := hT.cell1
          exact bodyPost_ret (v := .tuple #[.agg #[.bool p.1, .slice A n c], .bool false]) (by simp [results, Tryz.results29, go_sem, c0, c1]) rfl ⟨_, by rw [HNM.out], by rw [HNM.out]; exact hZ9, hB9⟩
        · have d1 : decide ((q : Int) < 48) = false := decide_eq_false h48
          have d2 : decide ((57 : Int) < (q : Int)) = true := decide_eq_true (by omega)
          clear hd
          have q0 := HX.out.cell0
          have q1 := HX.out.cell1
          have r0 := HR.out.cell0
          have r1 := HR.out.cell1
          have y0 := HR.out.free 0
          have y1 := HR.out.free 1
          go_wp2
          obtain ⟨V9, hV9⟩ : ∃ V9, V9 = (wr.setCell ⟨w.heap.size, 0, none⟩ (.bool p.1)).setCell ⟨w.heap.size, 1, none⟩ (.slice A n c) := ⟨_, rfl⟩
          rw [← hV9]
          have hT : Two V9 w.heap.size (.bool p.1) (.slice A n c) 43 := by rw [hV9]; exact (HR.out.set0 _).set1 _
          have hB9 : Below w.heap.size w V9 := by rw [hV9]; exact (HB.out.setCell (by dsimp only; omega) _).setCell (by dsimp only; omega) _
          have hZ9 : IsR V9 (.agg #[.bool p.1, .slice A n c]) (z : Int) 25 := by rw [hV9]; exact IsR.stored' HZ.out HR.out
          have c0 := hT.cell0
          have c1 := hT.cell1
          exact bodyPost_ret (v := .tuple #[.agg #[.bool p.1, .slice A n c], .bool false]) (by simp [results, Tryz.results29, go_sem, c0, c1]) rfl ⟨_, by rw [HNM.out], by rw [HNM.out]; exact hZ9, hB9⟩
    · obtain rfl : k = l.length := by omega
      have hnv := HV.out
      rw [List.drop_length] at hnv
      have hnm : numM l = (z, decide (1 ≤ l.length ∧ l.length ≤ 19)) := by unfold numM; rw [hnv]; rfl
      have HNM := Lib.hid hnm
      clear hnv hnm
      rcases Nat.lt_or_ge 19 l.length with h19 | h19
      · have d1 : decide ((1 : Int) ≤ (l.length : Int)) = true := decide_eq_true (by omega)
        have d2 : decide ((l.length : Int) ≤ 19) = false := decide_eq_false (by omega)
        have HE := Lib.hid (show ¬ (1 ≤ l.length ∧ l.length ≤ 19) by omega)
        clear h19
        have q0 := HX.out.cell0
        have q1 := HX.out.cell1
        have r0 := HR.out.cell0
        have r1 := HR.out.cell1
        have y0 := HR.out.free 0
        have y1 := HR.out.free 1
        go_wp2
        obtain ⟨V9, hV9⟩ : ∃ V9, V9 = (wr.setCell ⟨w.heap.size, 0, none⟩ (.bool p.1)).setCell ⟨w.heap.size, 1, none⟩ (.slice A n c) := ⟨_, rfl⟩
        rw [← hV9]
        have hT : Two V9 w.heap.size (.bool p.1) (.slice A n c) 43 := by rw [hV9]; exact (HR.out.set0 _).set1 _
        have hB9 : Below w.heap.size w V9 := by rw [hV9]; exact (HB.out.setCell (by dsimp only; omega) _).setCell (by dsimp only; omega) _
        have hZ9 : IsR V9 (.agg #[.bool p.1, .slice A n c]) (z : Int) 25 := by rw [hV9]; exact IsR.stored' HZ.out HR.out
        have c0 := hT.cell0
        have c1 := hT.cell1
        exact bodyPost_ret (v := .tuple #[.agg #[.bool p.1, .slice A n c], .bool false]) (by simp [results, Tryz.results29, go_sem, c0, c1]) rfl ⟨_, by rw [HNM.out, decide_eq_false HE.out], by rw [HNM.out]; exact hZ9, hB9⟩
      · rcases Nat.eq_zero_or_pos l.length with h0 | h0
        · have d1 : decide ((1 : Int) ≤ (l.length : Int)) = false := decide_eq_false (by omega)
          have HE := Lib.hid (show ¬ (1 ≤ l.length ∧ l.length ≤ 19) by omega)
          clear h19 h0
          have q0 := HX.out.cell0
          have q1 := HX.out.cell1
          have r0 := HR.out.cell0
          have r1 := HR.out.cell1
          have y0 := HR.out.free 0
          have y1 := HR.out.free 1
          go_wp2
          obtain ⟨V9, hV9⟩ : ∃ V9, V9 = (wr.setCell ⟨w.heap.size, 0, none⟩ (.bool p.1)).setCell ⟨w.heap.size, 1, none⟩ (.slice A n c) := ⟨_, rfl⟩
          rw [← hV9]
          have hT : Two V9 w.heap.size (.bool p.1) (.slice A n c) 43 := by rw [hV9]; exact (HR.out.set0 _).set1 _
          have hB9 : Below w.heap.size w V9 := by rw [hV9]; exact (HB.out.setCell (by dsimp only; omega) _).setCell (by dsimp only; omega) _
          have hZ9 : IsR V9 (.agg #[.bool p.1, .slice A n c]) (z : Int) 25 := by rw [hV9]; exact IsR.stored' HZ.out HR.out
          have c0 := hT.cell0
          have c1 := hT.cell1
          exact bodyPost_ret (v := .tuple #[.agg #[.bool p.1, .slice A n c], .bool false]) (by simp [results, Tryz.results29, go_sem, c0, c1]) rfl ⟨_, by rw [HNM.out, decide_eq_false HE.out], by rw [HNM.out]; exact hZ9, hB9⟩
        · have d1 : decide ((1 : Int) ≤ (l.length : Int)) = true := decide_eq_true (by omega)
          have d2 : decide ((l.length : Int) ≤ 19) = true := decide_eq_true (by omega)
          have HE := Lib.hid (show 1 ≤ l.length ∧ l.length ≤ 19 by omega)
          clear h19 h0
          have q0 := HX.out.cell0
          have q1 := HX.out.cell1
          have r0 := HR.out.cell0
          have r1 := HR.out.cell1
          have y0 := HR.out.free 0
          have y1 := HR.out.free 1
          go_wp2
          obtain ⟨V9, hV9⟩ : ∃ V9, V9 = (wr.setCell ⟨w.heap.size, 0, none⟩ (.bool p.1)).setCell ⟨w.heap.size, 1, none⟩ (.slice A n c) := ⟨_, rfl⟩
          rw [← hV9]
          have hT : Two V9 w.heap.size (.bool p.1) (.slice A n c) 43 := by rw [hV9]; exact (HR.out.set0 _).set1 _
          have hB9 : Below w.heap.size w V9 := by rw [hV9]; exact (HB.out.setCell (by dsimp only; omega) _).setCell (by dsimp only; omega) _
          have hZ9 : IsR V9 (.agg #[.bool p.1, .slice A n c]) (z : Int) 25 := by rw [hV9]; exact IsR.stored' HZ.out HR.out
          have c0 := hT.cell0
          have c1 := hT.cell1
          exact bodyPost_ret (v := .tuple #[.agg #[.bool p.1, .slice A n c], .bool true]) (by simp [results, Tryz.results29, go_sem, c0, c1]) rfl ⟨_, by rw [HNM.out, decide_eq_true HE.out], by rw [HNM.out]; exact hZ9, hB9⟩
end Go.Proofs.YtklngjjokbhfpaaGreatDoor
