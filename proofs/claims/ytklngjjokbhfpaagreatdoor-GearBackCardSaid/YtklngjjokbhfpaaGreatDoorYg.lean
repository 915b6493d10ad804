/- gear's Parse (printed by genyg.py). -/
import Derived.Test.YtklngjjokbhfpaaGreatDoorYt
namespace Go.Proofs.YtklngjjokbhfpaaGreatDoor
open Go.RowKit Go.Lib

theorem cut_len (l : List UInt8) : (cut l [47]).1.length ≤ l.length ∧ (cut l [47]).2.1.length ≤ l.length := by
  unfold cut
  split
  · simp only [List.length_take, List.length_drop]; omega
  · simp
def RetP (o : Option (Int × Int)) (w : World) (e : Ending) (w' : World) : Prop := Below w.heap.size w w' ∧ e = .returned (match o with | some x => .tuple #[.agg #[.int .i64 x.1, .int .i64 x.2], .int .i64 0] | none => .tuple #[.agg #[.int .i64 0, .int .i64 0], .int .i64 2])
set_option maxRecDepth 100000 in
set_option maxHeartbeats 3200000 in
theorem gparse_any (l : List UInt8) (w : World) (hl : l.length ≤ 1000) (hI : ItoaOk w) (hA : AtoiOk w) (hC : CutOk w) : Calls Tryz.prog 12 #[.string ⟨(l).toArray⟩] w (RetP (parseM l) w) := by
  obtain ⟨x, hx⟩ : ∃ x, x = gcand l := ⟨_, rfl⟩
  obtain ⟨i1, i2⟩ := gcand_i64 l
  rw [← hx] at i1 i2
  have hlen := cut_len l
  have cc0 := hC w (Below.refl _ _) l hl
  obtain ⟨a, ha⟩ : ∃ a, (cut l [47]).1 = a := ⟨_, rfl⟩
  obtain ⟨b, hb⟩ : ∃ b, (cut l [47]).2.1 = b := ⟨_, rfl⟩
  obtain ⟨ok, hok⟩ : ∃ ok : Bool × Unit, (cut l [47]).2.2 = ok.1 := ⟨(_, ()), rfl⟩
  have hx1 : x.1 = atoiV a := by rw [hx, ← ha]; rfl
  have hx2 : x.2 = if ok.1 then atoiV b else 1 := by rw [hx, ← hb, ← hok]; rfl
  have hp : parseM l = if FOk x ∧ textM x.1 x.2 = l then some x else none := by rw [hx]; rfl
  rw [ha, hb] at hlen
  have ccut : ∀ W (_ : Below w.heap.size w W), Calls Tryz.prog 27 #[.string ⟨(l).toArray⟩, .string ⟨#[47]⟩] W (RetW (.tuple #[.string ⟨(a).toArray⟩, .string ⟨(b).toArray⟩, .bool ok.1]) W) := fun W hw => by
    have := hC W hw l hl
    rw [ha, hb, hok] at this
    exact this
  have ca1 : ∀ W (_ : Below w.heap.size w W), Calls Tryz.prog 28 #[.string ⟨(a).toArray⟩] W (fun e w' => ∃ ev, e = .returned (.tuple #[.int .i64 x.1, ev]) ∧ Below W.heap.size W w') := fun W hw => by rw [hx1]; exact hA W hw a (by omega)
  have ca2 : ok.1 = true → ∀ W (_ : Below w.heap.size w W), Calls Tryz.prog 28 #[.string ⟨(b).toArray⟩] W (fun e w' => ∃ ev, e = .returned (.tuple #[.int .i64 x.2, ev]) ∧ Below W.heap.size W w') := fun ho W hw => by
    rw [hx2, if_pos ho]
    exact hA W hw b (by omega)
  have hf : ok.1 = false → x.2 = 1 := fun ho => by rw [hx2, ho]; rfl
  obtain ⟨n, d⟩ := x
  dsimp only at i1 i2 ca1 ca2 hf hp
  have ctx : ∀ W (_ : Below w.heap.size w W), Calls Tryz.prog 7 #[.agg #[.int .i64 n, .int .i64 d]] W (fun e w' => ∃ t z, e = .returned (.tuple #[.string ⟨(t).toArray⟩, .int .i64 z]) ∧ ((FOk (n, d) ∧ t = textM n d ∧ z = 0) ∨ (¬ FOk (n, d) ∧ z = 2)) ∧ Below W.heap.size W w') := fun W hw => by
    by_cases hk : FOk (n, d)
    · exact (gtext_ok n d W hk (hI.below hw)).mono fun e w' h => ⟨_, _, h.1, .inl ⟨hk, rfl, rfl⟩, h.2⟩
    · exact (gtext_bad n d W i1 i2 hk).mono fun e w' h => ⟨_, _, h.1, .inr ⟨hk, rfl⟩, h.2⟩
  have HP := Lib.hid hp
  have HF := Lib.hid hf
  have HA2 := Lib.hid ca2
  clear hlen cc0 ha hb hok hx hx1 hx2 hp hf ca2 i1 i2 hI hA hC hl
  obtain ⟨W3, hW3⟩ : ∃ W3, W3 = w.alloc (.cells #[.int .i64 0, .int .i64 0] 23) := ⟨_, rfl⟩
  have hB : Below w.heap.size w W3 := by rw [hW3]; exact (Below.refl _ _).alloc (Nat.le_refl _) _
  have HBW := Lib.hid hB
  have HR := Lib.hid (show Two W3 w.heap.size (.int .i64 0) (.int .i64 0) 23 by rw [hW3]; exact Two.newAt _ _ _ _ _ rfl)
  clear hB
  go_enter Tryz.func12, Tryz.ntmps12
  go_upto_region 1 with fail
  rw [← hW3]
  clear hW3
  have cc := ccut W3 HBW.out
  go_wp2_with fail
  refine cc.mono ?_
  rintro e V1 ⟨v1, rfl, rfl, hn1⟩
  have HB1 := Lib.hid (HBW.out.trans (hn1.mono HBW.out.size))
  have HR1 := Lib.hid (HR.out.below hn1 HR.out.lt)
  clear cc hn1 HBW HR ccut
  obtain ⟨N, hN⟩ : ∃ N, N = V1.heap.size := ⟨_, rfl⟩
  obtain ⟨U, hU⟩ : ∃ U, U = V1.alloc (.cells #[.int .i64 0, .int .i64 1] 23) := ⟨_, rfl⟩
  have HU := Lib.hid (And.intro hU hN)
  clear hU hN
  go_upto_region 3 with fail
  rw [← HU.out.2, ← HU.out.1]
  have hu : Below V1.heap.size V1 U := by rw [HU.out.1]; exact (Below.refl _ _).alloc (Nat.le_refl _) _
  have HB2 := Lib.hid (HB1.out.trans (hu.mono HB1.out.size))
  have HR2 := Lib.hid (HR1.out.below hu HR1.out.lt)
  have HX := Lib.hid (show Two U N (.int .i64 0) (.int .i64 1) 23 by rw [HU.out.1]; exact Two.newAt _ _ _ _ _ HU.out.2)
  have HN := Lib.hid (show w.heap.size < N by rw [HU.out.2]; exact HR1.out.lt)
  clear hu HU HB1 HR1
  have cc := ca1 U HB2.out
  go_wp2_with fail
  refine cc.mono ?_
  rintro e V2 ⟨ev, rfl, hn2⟩
  have HB3 := Lib.hid (HB2.out.trans (hn2.mono HB2.out.size))
  have HR3 := Lib.hid (HR2.out.below hn2 HR2.out.lt)
  have HX3 := Lib.hid (HX.out.below hn2 HX.out.lt)
  clear cc hn2 HB2 HR2 HX ca1
  have k0 := HX3.out.cell0
  have g0 := HX3.out.free 0
  obtain ⟨V3, hV3⟩ : ∃ V3, V3 = V2.setCell ⟨N, 0, none⟩ (.int .i64 n) := ⟨_, rfl⟩
  have HV := Lib.hid hV3
  clear hV3
  go_upto_region 4 with fail
  rw [← HV.out]
  clear k0 g0
  have HB4 := Lib.hid (show Below w.heap.size w V3 by rw [HV.out]; exact HB3.out.setCell (by dsimp only; have := HN.out; omega) _)
  have HR4 := Lib.hid (show Two V3 w.heap.size (.int .i64 0) (.int .i64 0) 23 by rw [HV.out]; exact HR3.out.setOther ⟨N, 0, none⟩ _ (by dsimp only; have := HN.out; omega))
  have HX4 := Lib.hid (show Two V3 N (.int .i64 n) (.int .i64 1) 23 by rw [HV.out]; exact HX3.out.set0 _)
  clear HV HB3 HR3 HX3
  cases hok : ok.1
  · obtain rfl : d = 1 := HF.out hok
    have k0 := HX4.out.cell0
    have k1 := HX4.out.cell1
    have cc := ctx _ HB4.out
    go_upto_region 6 with fail
    go_wp2_with fail
    refine cc.mono ?_
    rintro e V6 ⟨t, z, rfl, ht, hn6⟩
    have HB6 := Lib.hid (HB4.out.trans (hn6.mono HB4.out.size))
    have HR6 := Lib.hid (HR4.out.below hn6 HR4.out.lt)
    have HX6 := Lib.hid (HX4.out.below hn6 HX4.out.lt)
    clear cc hn6 HB4 HR4 HX4 ctx k0 k1
    have r0 := HR6.out.cell0
    have r1 := HR6.out.cell1
    have y0 := HR6.out.free 0
    have y1 := HR6.out.free 1
    have HRb := Lib.hid (HB6.out.setCell (show w.heap.size ≤ (Addr.mk w.heap.size 0 none).block from Nat.le_refl _) (.int .i64 0))
    have HW0 := Lib.hid (fun (u v : Value) => (HB6.out.setCell (show w.heap.size ≤ (Addr.mk w.heap.size 0 none).block from Nat.le_refl _) u).setCell (show w.heap.size ≤ (Addr.mk w.heap.size 1 none).block from Nat.le_refl _) v)
    have HT0 := Lib.hid (fun (u v : Value) => (HR6.out.set0 u).set1 v)
    rcases ht with ⟨hk, rfl, rfl⟩ | ⟨hk, rfl⟩
    · by_cases he : textM n 1 = l
      · have q0 := HX6.out.cell0
        have q1 := HX6.out.cell1
        have HE := Lib.hid (And.intro hk he)
        subst he
        clear hk
        go_wp2
        obtain ⟨V9, hV9⟩ : ∃ V9, V9 = (V6.setCell ⟨w.heap.size, 0, none⟩ (.int .i64 n)).setCell ⟨w.heap.size, 1, none⟩ (.int .i64 1) := ⟨_, rfl⟩
        rw [← hV9]
        have hT := HT0.out (.int .i64 n) (.int .i64 1)
        have hB := HW0.out (.int .i64 n) (.int .i64 1)
        rw [← hV9] at hT hB
        have c0 := hT.cell0
        have c1 := hT.cell1
        exact bodyPost_ret (v := .tuple #[.agg #[.int .i64 n, .int .i64 1], .int .i64 0]) (by simp [results, Tryz.results12, go_sem, c0, c1]) rfl ⟨hB, by rw [HP.out, if_pos HE.out]⟩
      · have HE := Lib.hid he
        have hq : (textM n 1 == l) = false := beq_eq_false_iff_ne.2 he
        clear he
        go_wp2
        obtain ⟨V9, hV9⟩ : ∃ V9, V9 = (V6.setCell ⟨w.heap.size, 0, none⟩ (.int .i64 0)).setCell ⟨w.heap.size, 1, none⟩ (.int .i64 0) := ⟨_, rfl⟩
        rw [← hV9]
        have hT := HT0.out (.int .i64 0) (.int .i64 0)
        have hB := HW0.out (.int .i64 0) (.int .i64 0)
        rw [← hV9] at hT hB
        have c0 := hT.cell0
        have c1 := hT.cell1
        exact bodyPost_ret (v := .tuple #[.agg #[.int .i64 0, .int .i64 0], .int .i64 2]) (by simp [results, Tryz.results12, go_sem, c0, c1]) rfl ⟨hB, by rw [HP.out, if_neg (fun h => HE.out h.2)]⟩
    · have HE := Lib.hid hk
      clear hk
      go_wp2
      obtain ⟨V9, hV9⟩ : ∃ V9, V9 = (V6.setCell ⟨w.heap.size, 0, none⟩ (.int .i64 0)).setCell ⟨w.heap.size, 1, none⟩ (.int .i64 0) := ⟨_, rfl⟩
      rw [← hV9]
      have hT := HT0.out (.int .i64 0) (.int .i64 0)
      have hB := HW0.out (.int .i64 0) (.int .i64 0)
      rw [← hV9] at hT hB
      have c0 := hT.cell0
      have c1 := hT.cell1
      exact bodyPost_ret (v := .tuple #[.agg #[.int .i64 0, .int .i64 0], .int .i64 2]) (by simp [results, Tryz.results12, go_sem, c0, c1]) rfl ⟨hB, by rw [HP.out, if_neg (fun h => HE.out h.1)]⟩
  · have ca2 := HA2.out hok
    have cc := ca2 V3 HB4.out
    go_wp2_with fail
    refine cc.mono ?_
    rintro e V4 ⟨ev2, rfl, hn4⟩
    have HB5 := Lib.hid (HB4.out.trans (hn4.mono HB4.out.size))
    have HR5 := Lib.hid (HR4.out.below hn4 HR4.out.lt)
    have HX5 := Lib.hid (HX4.out.below hn4 HX4.out.lt)
    clear cc hn4 HB4 HR4 HX4 ca2
    have k0 := HX5.out.cell1
    have g0 := HX5.out.free 1
    obtain ⟨V5, hV5⟩ : ∃ V5, V5 = V4.setCell ⟨N, 1, none⟩ (.int .i64 d) := ⟨_, rfl⟩
    have HV := Lib.hid hV5
    clear hV5
    go_upto_region 6 with fail
    rw [← HV.out]
    clear k0 g0
    have HB7 := Lib.hid (show Below w.heap.size w V5 by rw [HV.out]; exact HB5.out.setCell (by dsimp only; have := HN.out; omega) _)
    have HR7 := Lib.hid (show Two V5 w.heap.size (.int .i64 0) (.int .i64 0) 23 by rw [HV.out]; exact HR5.out.setOther ⟨N, 1, none⟩ _ (by dsimp only; have := HN.out; omega))
    have HX7 := Lib.hid (show Two V5 N (.int .i64 n) (.int .i64 d) 23 by rw [HV.out]; exact HX5.out.set1 _)
    clear HV HB5 HR5 HX5
    have k0 := HX7.out.cell0
    have k1 := HX7.out.cell1
    have cc := ctx _ HB7.out
    go_wp2_with fail
    refine cc.mono ?_
    rintro e V6 ⟨t, z, rfl, ht, hn6⟩
    have HB6 := Lib.hid (HB7.out.trans (hn6.mono HB7.out.size))
    have HR6 := Lib.hid (HR7.out.below hn6 HR7.out.lt)
    have HX6 := Lib.hid (HX7.out.below hn6 HX7.out.lt)
    clear cc hn6 HB7 HR7 HX7 ctx k0 k1
    have r0 := HR6.out.cell0
    have r1 := HR6.out.cell1
    have y0 := HR6.out.free 0
    have y1 := HR6.out.free 1
    have HRb := Lib.hid (HB6.out.setCell (show w.heap.size ≤ (Addr.mk w.heap.size 0 none).block from Nat.le_refl _) (.int .i64 0))
    have HW0 := Lib.hid (fun (u v : Value) => (HB6.out.setCell (show w.heap.size ≤ (Addr.mk w.heap.size 0 none).block from Nat.le_refl _) u).setCell (show w.heap.size ≤ (Addr.mk w.heap.size 1 none).block from Nat.le_refl _) v)
    have HT0 := Lib.hid (fun (u v : Value) => (HR6.out.set0 u).set1 v)
    rcases ht with ⟨hk, rfl, rfl⟩ | ⟨hk, rfl⟩
    · by_cases he : textM n d = l
      · have q0 := HX6.out.cell0
        have q1 := HX6.out.cell1
        have HE := Lib.hid (And.intro hk he)
        subst he
        clear hk
        go_wp2
        obtain ⟨V9, hV9⟩ : ∃ V9, V9 = (V6.setCell ⟨w.heap.size, 0, none⟩ (.int .i64 n)).setCell ⟨w.heap.size, 1, none⟩ (.int .i64 d) := ⟨_, rfl⟩
        rw [← hV9]
        have hT := HT0.out (.int .i64 n) (.int .i64 d)
        have hB := HW0.out (.int .i64 n) (.int .i64 d)
        rw [← hV9] at hT hB
        have c0 := hT.cell0
        have c1 := hT.cell1
        exact bodyPost_ret (v := .tuple #[.agg #[.int .i64 n, .int .i64 d], .int .i64 0]) (by simp [results, Tryz.results12, go_sem, c0, c1]) rfl ⟨hB, by rw [HP.out, if_pos HE.out]⟩
      · have HE := Lib.hid he
        have hq : (textM n d == l) = false := beq_eq_false_iff_ne.2 he
        clear he
        go_wp2
        obtain ⟨V9, hV9⟩ : ∃ V9, V9 = (V6.setCell ⟨w.heap.size, 0, none⟩ (.int .i64 0)).setCell ⟨w.heap.size, 1, none⟩ (.int .i64 0) := ⟨_, rfl⟩
        rw [← hV9]
        have hT := HT0.out (.int .i64 0) (.int .i64 0)
        have hB := HW0.out (.int .i64 0) (.int .i64 0)
        rw [← hV9] at hT hB
        have c0 := hT.cell0
        have c1 := hT.cell1
        exact bodyPost_ret (v := .tuple #[.agg #[.int .i64 0, .int .i64 0], .int .i64 2]) (by simp [results, Tryz.results12, go_sem, c0, c1]) rfl ⟨hB, by rw [HP.out, if_neg (fun h => HE.out h.2)]⟩
    · have HE := Lib.hid hk
      clear hk
      go_wp2
      obtain ⟨V9, hV9⟩ : ∃ V9, V9 = (V6.setCell ⟨w.heap.size, 0, none⟩ (.int .i64 0)).setCell ⟨w.heap.size, 1, none⟩ (.int .i64 0) := ⟨_, rfl⟩
      rw [← hV9]
      have hT := HT0.out (.int .i64 0) (.int .i64 0)
      have hB := HW0.out (.int .i64 0) (.int .i64 0)
      rw [← hV9] at hT hB
      have c0 := hT.cell0
      have c1 := hT.cell1
      exact bodyPost_ret (v := .tuple #[.agg #[.int .i64 0, .int .i64 0], .int .i64 2]) (by simp [results, Tryz.results12, go_sem, c0, c1]) rfl ⟨hB, by rw [HP.out, if_neg (fun h => HE.out h.1)]⟩
end Go.Proofs.YtklngjjokbhfpaaGreatDoor
