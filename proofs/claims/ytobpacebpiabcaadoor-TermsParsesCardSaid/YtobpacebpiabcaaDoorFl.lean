/- TermsParses: what the law computes (printed by expand.py). -/
import Derived.Test.YtobpacebpiabcaaDoorFk
import Derived.Test.YtobpacebpiabcaaDoorCk
namespace Go.Proofs.YtobpacebpiabcaaDoor
open Go.RowKit Go.Lib

theorem RetParse.yes {l : List UInt8} {w w' : World} {e : Ending} (h : RetParse l w e w') {t : Tm} (hp : parseT l = some t) (hl : l.length ≤ 2000) : ∃ v, e = .returned (.tuple #[v, .int .i64 0]) ∧ TmV (fun b => w.heap.size ≤ b) w' v t ∧ Below w.heap.size w w' := by
  rcases h with ⟨t', v, h1, _, h3, h4, h5⟩ | ⟨h1 | h1, _⟩
  · rw [hp] at h1
    injection h1 with h1
    subst h1
    exact ⟨v, h3, h4, h5⟩
  · rw [hp] at h1; cases h1
  · omega
theorem RetParse.no {l : List UInt8} {w w' : World} {e : Ending} (h : RetParse l w e w') (hn : parseT l = none ∨ 2000 < l.length) : e = .returned (.tuple #[.agg #[.int .i64 0, .string ⟨#[]⟩, .int .i64 0, .slice none 0 0], .int .i64 (if 2000 < l.length then 3 else 2)]) ∧ Below w.heap.size w w' := by
  rcases h with ⟨t', v, h1, h2, _⟩ | ⟨_, h2, h3⟩
  · rcases hn with h | h
    · rw [h] at h1; cases h1
    · omega
  · exact ⟨h2, h3⟩
set_option maxRecDepth 100000 in
set_option maxHeartbeats 12800000 in
theorem parses_any {B0 : Nat} {l0 : List UInt8} {w : World} (hs : l0.length ≤ 9223372036854775807) (hL : LibOk B0 w) : Calls Tryd.prog 6 #[.string ⟨l0.toArray⟩] w (RetW (.bool true) w) := by
  obtain ⟨l, hl⟩ : ∃ l, l0.take 2100 = l := ⟨_, rfl⟩
  have hll : l.length ≤ 2100 := by rw [← hl, List.length_take]; omega
  have HP := Lib.hid (show ∀ W, Below w.heap.size w W → Calls Tryd.prog 25 #[.string ⟨l.toArray⟩] W (RetParse l W) from fun W hb => parse_any B0 l W (by omega) (hL.below hb))
  have HR := Lib.hid (show ∀ W, Below w.heap.size w W → Calls Tryd.prog 26 #[.string ⟨l.toArray⟩] W (RetParse l W) from fun W _ => rparse_any l W (by omega))
  have HLV := Lib.hid (show ∀ W, Below w.heap.size w W → Calls Tryd.prog 13 #[] W (RetW (.bool true) W) from fun W hb => lives_any B0 W (hL.below hb))
  have HTX := Lib.hid (show ∀ (S : Nat → Prop) (v : Value) (t : Tm) W, Below w.heap.size w W → TmV S W v t → t.ok = true → Calls Tryd.prog 28 #[v] W (RetW (.tuple #[.string ⟨t.tx.toArray⟩, .int .i64 0]) W) from fun S v t W hb h ho => termstext_any h ho (hL.below hb))
  obtain ⟨n0, hn0⟩ : ∃ n, l0.length = n := ⟨_, rfl⟩
  have hsz : (⟨l0.toArray⟩ : ByteArray).size = n0 := by show l0.toArray.size = _; simpa using hn0
  have HBR := Lib.hid (Below.refl w.heap.size w)
  by_cases hbig : 2100 < n0
  · have d1 : (2100 : Int) < (n0 : Int) := by omega
    have d2 : (2100 : Int) ≤ (n0 : Int) := by omega
    have e1 : (⟨l0.toArray⟩ : ByteArray).extract 0 2100 = ⟨l.toArray⟩ := by rw [← hl]; exact ext_take l0 2100
    clear hl hL hs
    go_enter Tryd.func6, Tryd.ntmps6
    have cp := HP.out w HBR.out
    go_wp2_with fail
    refine cp.mono ?_
    rintro e W1 hr1
    have HR1 := Lib.hid hr1
    clear cp hr1
    cases hpt : parseT l with
    | none =>
      have HNO := Lib.hid (show parseT l = none ∨ 2000 < l.length from .inl hpt)
      clear hpt
      obtain ⟨rfl, hb1⟩ := HR1.out.no HNO.out
      obtain ⟨er, her⟩ : ∃ er : Int, (if 2000 < l.length then 3 else 2) = er := ⟨_, rfl⟩
      have her2 : er = 3 ∨ er = 2 := by rw [← her]; by_cases h : 2000 < l.length <;> simp [h]
      have HER := Lib.hid her
      rw [her]
      clear her
      have HB1 := Lib.hid hb1
      clear hb1
      go_upto_region 4 with fail
      obtain ⟨W2, hW2⟩ : ∃ W2, W2 = W1.alloc (.cells #[.int .i64 0, .string ⟨#[]⟩, .int .i64 0, .slice none 0 0] 26) := ⟨_, rfl⟩
      have hb2 : Below W1.heap.size W1 W2 := by rw [hW2]; exact (Below.refl _ _).alloc (Nat.le_refl _) _
      have HX2 := Lib.hid (show Blk W2 W1.heap.size #[.int .i64 0, .string ⟨#[]⟩, .int .i64 0, .slice none 0 0] 26 by rw [hW2]; exact Blk.new _ _ _)
      rw [← hW2]
      clear hW2
      have HB2 := Lib.hid (HB1.out.trans (hb2.mono HB1.out.size))
      have cr := HR.out W2 HB2.out
      clear hb2
      go_wp2_with fail
      refine cr.mono ?_
      rintro e W3 hr3
      obtain ⟨rfl, hb3⟩ := hr3.no HNO.out
      rw [HER.out]
      have HB3 := Lib.hid (HB2.out.trans (hb3.mono HB2.out.size))
      have HX3 := Lib.hid (HX2.out.below hb3)
      clear cr hr3 hb3
      go_upto_region 5 with fail
      obtain ⟨W4, hW4⟩ : ∃ W4, W4 = W3.alloc (.cells #[.int .i64 0, .string ⟨#[]⟩, .int .i64 0, .slice none 0 0] 26) := ⟨_, rfl⟩
      have hb4 : Below W3.heap.size W3 W4 := by rw [hW4]; exact (Below.refl _ _).alloc (Nat.le_refl _) _
      have HY4 := Lib.hid (show Blk W4 W3.heap.size #[.int .i64 0, .string ⟨#[]⟩, .int .i64 0, .slice none 0 0] 26 by rw [hW4]; exact Blk.new _ _ _)
      rw [← hW4]
      clear hW4
      have HB4 := Lib.hid (HB3.out.trans (hb4.mono HB3.out.size))
      have HX4 := Lib.hid (HX3.out.below hb4)
      have cs := same_any 1 (0, [], 0, .nil) (0, [], 0, .nil) (fun _ => True) (fun _ => True) (.agg #[.int .i64 0, .string ⟨#[]⟩, .int .i64 0, .slice none 0 0]) (.agg #[.int .i64 0, .string ⟨#[]⟩, .int .i64 0, .slice none 0 0]) W4 (by decide) ⟨_, rfl, KidsV.nil _ _⟩ ⟨_, rfl, KidsV.nil _ _⟩
      rw [(Tm.same_iff _ _).2 rfl] at cs
      have x0 := HX4.out.cell 0
      have x1 := HX4.out.cell 1
      have x2 := HX4.out.cell 2
      have x3 := HX4.out.cell 3
      have y0 := HY4.out.cell 0
      have y1 := HY4.out.cell 1
      have y2 := HY4.out.cell 2
      have y3 := HY4.out.cell 3
      clear hb4
      go_wp2_with fail
      refine cs.mono ?_
      rintro e W5 ⟨rfl, hb5⟩
      have HB5 := Lib.hid (HB4.out.trans (hb5.mono HB4.out.size))
      have cl := HLV.out W5 HB5.out
      have hee : (er != er) = false := by simp
      clear cs hb5 x0 x1 x2 x3 y0 y1 y2 y3
      go_wp2_with fail
      refine cl.mono ?_
      rintro e W6 ⟨rfl, hb6⟩
      have HB6 := Lib.hid (HB5.out.trans (hb6.mono HB5.out.size))
      clear cl hb6
      rcases her2 with rfl | rfl
      · go_wp2
        go_ret
        exact ⟨rfl, HB6.out⟩
      · go_wp2
        go_ret
        exact ⟨rfl, HB6.out⟩
    | some t =>
      by_cases h2 : 2000 < l.length
      · have HNO := Lib.hid (show parseT l = none ∨ 2000 < l.length from .inr h2)
        clear hpt h2
        obtain ⟨rfl, hb1⟩ := HR1.out.no HNO.out
        obtain ⟨er, her⟩ : ∃ er : Int, (if 2000 < l.length then 3 else 2) = er := ⟨_, rfl⟩
        have her2 : er = 3 ∨ er = 2 := by rw [← her]; by_cases h : 2000 < l.length <;> simp [h]
        have HER := Lib.hid her
        rw [her]
        clear her
        have HB1 := Lib.hid hb1
        clear hb1
        go_upto_region 4 with fail
        obtain ⟨W2, hW2⟩ : ∃ W2, W2 = W1.alloc (.cells #[.int .i64 0, .string ⟨#[]⟩, .int .i64 0, .slice none 0 0] 26) := ⟨_, rfl⟩
        have hb2 : Below W1.heap.size W1 W2 := by rw [hW2]; exact (Below.refl _ _).alloc (Nat.le_refl _) _
        have HX2 := Lib.hid (show Blk W2 W1.heap.size #[.int .i64 0, .string ⟨#[]⟩, .int .i64 0, .slice none 0 0] 26 by rw [hW2]; exact Blk.new _ _ _)
        rw [← hW2]
        clear hW2
        have HB2 := Lib.hid (HB1.out.trans (hb2.mono HB1.out.size))
        have cr := HR.out W2 HB2.out
        clear hb2
        go_wp2_with fail
        refine cr.mono ?_
        rintro e W3 hr3
        obtain ⟨rfl, hb3⟩ := hr3.no HNO.out
        rw [HER.out]
        have HB3 := Lib.hid (HB2.out.trans (hb3.mono HB2.out.size))
        have HX3 := Lib.hid (HX2.out.below hb3)
        clear cr hr3 hb3
        go_upto_region 5 with fail
        obtain ⟨W4, hW4⟩ : ∃ W4, W4 = W3.alloc (.cells #[.int .i64 0, .string ⟨#[]⟩, .int .i64 0, .slice none 0 0] 26) := ⟨_, rfl⟩
        have hb4 : Below W3.heap.size W3 W4 := by rw [hW4]; exact (Below.refl _ _).alloc (Nat.le_refl _) _
        have HY4 := Lib.hid (show Blk W4 W3.heap.size #[.int .i64 0, .string ⟨#[]⟩, .int .i64 0, .slice none 0 0] 26 by rw [hW4]; exact Blk.new _ _ _)
        rw [← hW4]
        clear hW4
        have HB4 := Lib.hid (HB3.out.trans (hb4.mono HB3.out.size))
        have HX4 := Lib.hid (HX3.out.below hb4)
        have cs := same_any 1 (0, [], 0, .nil) (0, [], 0, .nil) (fun _ => True) (fun _ => True) (.agg #[.int .i64 0, .string ⟨#[]⟩, .int .i64 0, .slice none 0 0]) (.agg #[.int .i64 0, .string ⟨#[]⟩, .int .i64 0, .slice none 0 0]) W4 (by decide) ⟨_, rfl, KidsV.nil _ _⟩ ⟨_, rfl, KidsV.nil _ _⟩
        rw [(Tm.same_iff _ _).2 rfl] at cs
        have x0 := HX4.out.cell 0
        have x1 := HX4.out.cell 1
        have x2 := HX4.out.cell 2
        have x3 := HX4.out.cell 3
        have y0 := HY4.out.cell 0
        have y1 := HY4.out.cell 1
        have y2 := HY4.out.cell 2
        have y3 := HY4.out.cell 3
        clear hb4
        go_wp2_with fail
        refine cs.mono ?_
        rintro e W5 ⟨rfl, hb5⟩
        have HB5 := Lib.hid (HB4.out.trans (hb5.mono HB4.out.size))
        have cl := HLV.out W5 HB5.out
        have hee : (er != er) = false := by simp
        clear cs hb5 x0 x1 x2 x3 y0 y1 y2 y3
        go_wp2_with fail
        refine cl.mono ?_
        rintro e W6 ⟨rfl, hb6⟩
        have HB6 := Lib.hid (HB5.out.trans (hb6.mono HB5.out.size))
        clear cl hb6
        rcases her2 with rfl | rfl
        · go_wp2
          go_ret
          exact ⟨rfl, HB6.out⟩
        · go_wp2
          go_ret
          exact ⟨rfl, HB6.out⟩
      · have HPT := Lib.hid hpt
        have HLE := Lib.hid (show l.length ≤ 2000 by omega)
        obtain ⟨hok, htx⟩ := parseT_some.1 hpt
        have HOK := Lib.hid hok
        have HXT := Lib.hid htx
        clear hpt h2 hok htx
        obtain ⟨v1, rfl, ⟨u1, rfl, hu1⟩, hb1⟩ := HR1.out.yes HPT.out HLE.out
        obtain ⟨A, m, c, rfl, -⟩ := hu1.open'
        have HK1 := Lib.hid hu1
        have HB1 := Lib.hid hb1
        clear hu1 hb1
        go_upto_region 4 with fail
        obtain ⟨W2, hW2⟩ : ∃ W2, W2 = W1.alloc (.cells #[.int .i64 t.1, .string ⟨t.2.1.toArray⟩, .int .i64 t.2.2.1, .slice A m c] 26) := ⟨_, rfl⟩
        have hb2 : Below W1.heap.size W1 W2 := by rw [hW2]; exact (Below.refl _ _).alloc (Nat.le_refl _) _
        have HX2 := Lib.hid (show Blk W2 W1.heap.size #[.int .i64 t.1, .string ⟨t.2.1.toArray⟩, .int .i64 t.2.2.1, .slice A m c] 26 by rw [hW2]; exact Blk.new _ _ _)
        rw [← hW2]
        clear hW2
        have HB2 := Lib.hid (HB1.out.trans (hb2.mono HB1.out.size))
        have HK2 := Lib.hid (HK1.out.below hb2)
        have cr := HR.out W2 HB2.out
        clear hb2
        go_wp2_with fail
        refine cr.mono ?_
        rintro e W3 hr3
        obtain ⟨v3, rfl, ⟨u3, rfl, hu3⟩, hb3⟩ := hr3.yes HPT.out HLE.out
        obtain ⟨A', m', c', rfl, -⟩ := hu3.open'
        have HK3 := Lib.hid hu3
        have HB3 := Lib.hid (HB2.out.trans (hb3.mono HB2.out.size))
        have HX3 := Lib.hid (HX2.out.below hb3)
        have HK3A := Lib.hid (HK2.out.below hb3)
        clear cr hr3 hb3 hu3
        go_upto_region 5 with fail
        obtain ⟨W4, hW4⟩ : ∃ W4, W4 = W3.alloc (.cells #[.int .i64 t.1, .string ⟨t.2.1.toArray⟩, .int .i64 t.2.2.1, .slice A' m' c'] 26) := ⟨_, rfl⟩
        have hb4 : Below W3.heap.size W3 W4 := by rw [hW4]; exact (Below.refl _ _).alloc (Nat.le_refl _) _
        have HY4 := Lib.hid (show Blk W4 W3.heap.size #[.int .i64 t.1, .string ⟨t.2.1.toArray⟩, .int .i64 t.2.2.1, .slice A' m' c'] 26 by rw [hW4]; exact Blk.new _ _ _)
        rw [← hW4]
        clear hW4
        have HB4 := Lib.hid (HB3.out.trans (hb4.mono HB3.out.size))
        have HX4 := Lib.hid (HX3.out.below hb4)
        have cs := same_any _ t t _ _ (.agg #[.int .i64 t.1, .string ⟨t.2.1.toArray⟩, .int .i64 t.2.2.1, .slice A m c]) (.agg #[.int .i64 t.1, .string ⟨t.2.1.toArray⟩, .int .i64 t.2.2.1, .slice A' m' c']) W4 (Nat.lt_succ_self _) ⟨_, rfl, HK3A.out.below hb4⟩ ⟨_, rfl, HK3.out.below hb4⟩
        rw [(Tm.same_iff _ _).2 rfl] at cs
        have HK4 := Lib.hid (HK3A.out.below hb4)
        have HT5 := Lib.hid (show ∀ W, Below w.heap.size w W → Below W4.heap.size W4 W → Calls Tryd.prog 28 #[.agg #[.int .i64 t.1, .string ⟨t.2.1.toArray⟩, .int .i64 t.2.2.1, .slice A m c]] W (RetW (.tuple #[.string ⟨l.toArray⟩, .int .i64 0]) W) from fun W h1 h2 => by
          have h := HTX.out _ _ t W h1 ⟨_, rfl, HK4.out.below h2⟩ HOK.out
          rw [HXT.out] at h
          exact h)
        clear HK1 HK2 HK3 HK3A HK4 HTX
        generalize t.1 = kk at *
        generalize t.2.1 = knm at *
        generalize t.2.2.1 = kn at *
        have x0 := HX4.out.cell 0
        have x1 := HX4.out.cell 1
        have x2 := HX4.out.cell 2
        have x3 := HX4.out.cell 3
        have y0 := HY4.out.cell 0
        have y1 := HY4.out.cell 1
        have y2 := HY4.out.cell 2
        have y3 := HY4.out.cell 3
        clear hb4
        go_wp2_with fail
        refine cs.mono ?_
        rintro e W5 ⟨rfl, hb5⟩
        have HB5 := Lib.hid (HB4.out.trans (hb5.mono HB4.out.size))
        have HX5 := Lib.hid (HX4.out.below hb5)
        have HS5 := Lib.hid hb5
        have cl := HLV.out W5 HB5.out
        clear cs hb5 x0 x1 x2 x3 y0 y1 y2 y3
        go_wp2_with fail
        refine cl.mono ?_
        rintro e W6 ⟨rfl, hb6⟩
        have HB6 := Lib.hid (HB5.out.trans (hb6.mono HB5.out.size))
        have HX6 := Lib.hid (HX5.out.below hb6)
        have ct := HT5.out W6 HB6.out (HS5.out.trans (hb6.mono HS5.out.size))
        clear cl hb6
        have x0 := HX6.out.cell 0
        have x1 := HX6.out.cell 1
        have x2 := HX6.out.cell 2
        have x3 := HX6.out.cell 3
        go_wp2_with fail
        refine ct.mono ?_
        rintro e W7 ⟨rfl, hb7⟩
        have HB7 := Lib.hid (HB6.out.trans (hb7.mono HB6.out.size))
        clear ct hb7 x0 x1 x2 x3
        go_wp2
        go_ret
        exact ⟨rfl, HB7.out⟩
  · have d1 : decide ((2100 : Int) < (n0 : Int)) = false := decide_eq_false (by omega)
    obtain rfl : l = l0 := by rw [← hl]; exact List.take_of_length_le (by omega)
    clear hl hL hs
    go_enter Tryd.func6, Tryd.ntmps6
    have cp := HP.out w HBR.out
    go_wp2_with fail
    refine cp.mono ?_
    rintro e W1 hr1
    have HR1 := Lib.hid hr1
    clear cp hr1
    cases hpt : parseT l with
    | none =>
      have HNO := Lib.hid (show parseT l = none ∨ 2000 < l.length from .inl hpt)
      clear hpt
      obtain ⟨rfl, hb1⟩ := HR1.out.no HNO.out
      obtain ⟨er, her⟩ : ∃ er : Int, (if 2000 < l.length then 3 else 2) = er := ⟨_, rfl⟩
      have her2 : er = 3 ∨ er = 2 := by rw [← her]; by_cases h : 2000 < l.length <;> simp [h]
      have HER := Lib.hid her
      rw [her]
      clear her
      have HB1 := Lib.hid hb1
      clear hb1
      go_upto_region 4 with fail
      obtain ⟨W2, hW2⟩ : ∃ W2, W2 = W1.alloc (.cells #[.int .i64 0, .string ⟨#[]⟩, .int .i64 0, .slice none 0 0] 26) := ⟨_, rfl⟩
      have hb2 : Below W1.heap.size W1 W2 := by rw [hW2]; exact (Below.refl _ _).alloc (Nat.le_refl _) _
      have HX2 := Lib.hid (show Blk W2 W1.heap.size #[.int .i64 0, .string ⟨#[]⟩, .int .i64 0, .slice none 0 0] 26 by rw [hW2]; exact Blk.new _ _ _)
      rw [← hW2]
      clear hW2
      have HB2 := Lib.hid (HB1.out.trans (hb2.mono HB1.out.size))
      have cr := HR.out W2 HB2.out
      clear hb2
      go_wp2_with fail
      refine cr.mono ?_
      rintro e W3 hr3
      obtain ⟨rfl, hb3⟩ := hr3.no HNO.out
      rw [HER.out]
      have HB3 := Lib.hid (HB2.out.trans (hb3.mono HB2.out.size))
      have HX3 := Lib.hid (HX2.out.below hb3)
      clear cr hr3 hb3
      go_upto_region 5 with fail
      obtain ⟨W4, hW4⟩ : ∃ W4, W4 = W3.alloc (.cells #[.int .i64 0, .string ⟨#[]⟩, .int .i64 0, .slice none 0 0] 26) := ⟨_, rfl⟩
      have hb4 : Below W3.heap.size W3 W4 := by rw [hW4]; exact (Below.refl _ _).alloc (Nat.le_refl _) _
      have HY4 := Lib.hid (show Blk W4 W3.heap.size #[.int .i64 0, .string ⟨#[]⟩, .int .i64 0, .slice none 0 0] 26 by rw [hW4]; exact Blk.new _ _ _)
      rw [← hW4]
      clear hW4
      have HB4 := Lib.hid (HB3.out.trans (hb4.mono HB3.out.size))
      have HX4 := Lib.hid (HX3.out.below hb4)
      have cs := same_any 1 (0, [], 0, .nil) (0, [], 0, .nil) (fun _ => True) (fun _ => True) (.agg #[.int .i64 0, .string ⟨#[]⟩, .int .i64 0, .slice none 0 0]) (.agg #[.int .i64 0, .string ⟨#[]⟩, .int .i64 0, .slice none 0 0]) W4 (by decide) ⟨_, rfl, KidsV.nil _ _⟩ ⟨_, rfl, KidsV.nil _ _⟩
      rw [(Tm.same_iff _ _).2 rfl] at cs
      have x0 := HX4.out.cell 0
      have x1 := HX4.out.cell 1
      have x2 := HX4.out.cell 2
      have x3 := HX4.out.cell 3
      have y0 := HY4.out.cell 0
      have y1 := HY4.out.cell 1
      have y2 := HY4.out.cell 2
      have y3 := HY4.out.cell 3
      clear hb4
      go_wp2_with fail
      refine cs.mono ?_
      rintro e W5 ⟨rfl, hb5⟩
      have HB5 := Lib.hid (HB4.out.trans (hb5.mono HB4.out.size))
      have cl := HLV.out W5 HB5.out
      have hee : (er != er) = false := by simp
      clear cs hb5 x0 x1 x2 x3 y0 y1 y2 y3
      go_wp2_with fail
      refine cl.mono ?_
      rintro e W6 ⟨rfl, hb6⟩
      have HB6 := Lib.hid (HB5.out.trans (hb6.mono HB5.out.size))
      clear cl hb6
      rcases her2 with rfl | rfl
      · go_wp2
        go_ret
        exact ⟨rfl, HB6.out⟩
      · go_wp2
        go_ret
        exact ⟨rfl, HB6.out⟩
    | some t =>
      by_cases h2 : 2000 < l.length
      · have HNO := Lib.hid (show parseT l = none ∨ 2000 < l.length from .inr h2)
        clear hpt h2
        obtain ⟨rfl, hb1⟩ := HR1.out.no HNO.out
        obtain ⟨er, her⟩ : ∃ er : Int, (if 2000 < l.length then 3 else 2) = er := ⟨_, rfl⟩
        have her2 : er = 3 ∨ er = 2 := by rw [← her]; by_cases h : 2000 < l.length <;> simp [h]
        have HER := Lib.hid her
        rw [her]
        clear her
        have HB1 := Lib.hid hb1
        clear hb1
        go_upto_region 4 with fail
        obtain ⟨W2, hW2⟩ : ∃ W2, W2 = W1.alloc (.cells #[.int .i64 0, .string ⟨#[]⟩, .int .i64 0, .slice none 0 0] 26) := ⟨_, rfl⟩
        have hb2 : Below W1.heap.size W1 W2 := by rw [hW2]; exact (Below.refl _ _).alloc (Nat.le_refl _) _
        have HX2 := Lib.hid (show Blk W2 W1.heap.size #[.int .i64 0, .string ⟨#[]⟩, .int .i64 0, .slice none 0 0] 26 by rw [hW2]; exact Blk.new _ _ _)
        rw [← hW2]
        clear hW2
        have HB2 := Lib.hid (HB1.out.trans (hb2.mono HB1.out.size))
        have cr := HR.out W2 HB2.out
        clear hb2
        go_wp2_with fail
        refine cr.mono ?_
        rintro e W3 hr3
        obtain ⟨rfl, hb3⟩ := hr3.no HNO.out
        rw [HER.out]
        have HB3 := Lib.hid (HB2.out.trans (hb3.mono HB2.out.size))
        have HX3 := Lib.hid (HX2.out.below hb3)
        clear cr hr3 hb3
        go_upto_region 5 with fail
        obtain ⟨W4, hW4⟩ : ∃ W4, W4 = W3.alloc (.cells #[.int .i64 0, .string ⟨#[]⟩, .int .i64 0, .slice none 0 0] 26) := ⟨_, rfl⟩
        have hb4 : Below W3.heap.size W3 W4 := by rw [hW4]; exact (Below.refl _ _).alloc (Nat.le_refl _) _
        have HY4 := Lib.hid (show Blk W4 W3.heap.size #[.int .i64 0, .string ⟨#[]⟩, .int .i64 0, .slice none 0 0] 26 by rw [hW4]; exact Blk.new _ _ _)
        rw [← hW4]
        clear hW4
        have HB4 := Lib.hid (HB3.out.trans (hb4.mono HB3.out.size))
        have HX4 := Lib.hid (HX3.out.below hb4)
        have cs := same_any 1 (0, [], 0, .nil) (0, [], 0, .nil) (fun _ => True) (fun _ => True) (.agg #[.int .i64 0, .string ⟨#[]⟩, .int .i64 0, .slice none 0 0]) (.agg #[.int .i64 0, .string ⟨#[]⟩, .int .i64 0, .slice none 0 0]) W4 (by decide) ⟨_, rfl, KidsV.nil _ _⟩ ⟨_, rfl, KidsV.nil _ _⟩
        rw [(Tm.same_iff _ _).2 rfl] at cs
        have x0 := HX4.out.cell 0
        have x1 := HX4.out.cell 1
        have x2 := HX4.out.cell 2
        have x3 := HX4.out.cell 3
        have y0 := HY4.out.cell 0
        have y1 := HY4.out.cell 1
        have y2 := HY4.out.cell 2
        have y3 := HY4.out.cell 3
        clear hb4
        go_wp2_with fail
        refine cs.mono ?_
        rintro e W5 ⟨rfl, hb5⟩
        have HB5 := Lib.hid (HB4.out.trans (hb5.mono HB4.out.size))
        have cl := HLV.out W5 HB5.out
        have hee : (er != er) = false := by simp
        clear cs hb5 x0 x1 x2 x3 y0 y1 y2 y3
        go_wp2_with fail
        refine cl.mono ?_
        rintro e W6 ⟨rfl, hb6⟩
        have HB6 := Lib.hid (HB5.out.trans (hb6.mono HB5.out.size))
        clear cl hb6
        rcases her2 with rfl | rfl
        · go_wp2
          go_ret
          exact ⟨rfl, HB6.out⟩
        · go_wp2
          go_ret
          exact ⟨rfl, HB6.out⟩
      · have HPT := Lib.hid hpt
        have HLE := Lib.hid (show l.length ≤ 2000 by omega)
        obtain ⟨hok, htx⟩ := parseT_some.1 hpt
        have HOK := Lib.hid hok
        have HXT := Lib.hid htx
        clear hpt h2 hok htx
        obtain ⟨v1, rfl, ⟨u1, rfl, hu1⟩, hb1⟩ := HR1.out.yes HPT.out HLE.out
        obtain ⟨A, m, c, rfl, -⟩ := hu1.open'
        have HK1 := Lib.hid hu1
        have HB1 := Lib.hid hb1
        clear hu1 hb1
        go_upto_region 4 with fail
        obtain ⟨W2, hW2⟩ : ∃ W2, W2 = W1.alloc (.cells #[.int .i64 t.1, .string ⟨t.2.1.toArray⟩, .int .i64 t.2.2.1, .slice A m c] 26) := ⟨_, rfl⟩
        have hb2 : Below W1.heap.size W1 W2 := by rw [hW2]; exact (Below.refl _ _).alloc (Nat.le_refl _) _
        have HX2 := Lib.hid (show Blk W2 W1.heap.size #[.int .i64 t.1, .string ⟨t.2.1.toArray⟩, .int .i64 t.2.2.1, .slice A m c] 26 by rw [hW2]; exact Blk.new _ _ _)
        rw [← hW2]
        clear hW2
        have HB2 := Lib.hid (HB1.out.trans (hb2.mono HB1.out.size))
        have HK2 := Lib.hid (HK1.out.below hb2)
        have cr := HR.out W2 HB2.out
        clear hb2
        go_wp2_with fail
        refine cr.mono ?_
        rintro e W3 hr3
        obtain ⟨v3, rfl, ⟨u3, rfl, hu3⟩, hb3⟩ := hr3.yes HPT.out HLE.out
        obtain ⟨A', m', c', rfl, -⟩ := hu3.open'
        have HK3 := Lib.hid hu3
        have HB3 := Lib.hid (HB2.out.trans (hb3.mono HB2.out.size))
        have HX3 := Lib.hid (HX2.out.below hb3)
        have HK3A := Lib.hid (HK2.out.below hb3)
        clear cr hr3 hb3 hu3
        go_upto_region 5 with fail
        obtain ⟨W4, hW4⟩ : ∃ W4, W4 = W3.alloc (.cells #[.int .i64 t.1, .string ⟨t.2.1.toArray⟩, .int .i64 t.2.2.1, .slice A' m' c'] 26) := ⟨_, rfl⟩
        have hb4 : Below W3.heap.size W3 W4 := by rw [hW4]; exact (Below.refl _ _).alloc (Nat.le_refl _) _
        have HY4 := Lib.hid (show Blk W4 W3.heap.size #[.int .i64 t.1, .string ⟨t.2.1.toArray⟩, .int .i64 t.2.2.1, .slice A' m' c'] 26 by rw [hW4]; exact Blk.new _ _ _)
        rw [← hW4]
        clear hW4
        have HB4 := Lib.hid (HB3.out.trans (hb4.mono HB3.out.size))
        have HX4 := Lib.hid (HX3.out.below hb4)
        have cs := same_any _ t t _ _ (.agg #[.int .i64 t.1, .string ⟨t.2.1.toArray⟩, .int .i64 t.2.2.1, .slice A m c]) (.agg #[.int .i64 t.1, .string ⟨t.2.1.toArray⟩, .int .i64 t.2.2.1, .slice A' m' c']) W4 (Nat.lt_succ_self _) ⟨_, rfl, HK3A.out.below hb4⟩ ⟨_, rfl, HK3.out.below hb4⟩
        rw [(Tm.same_iff _ _).2 rfl] at cs
        have HK4 := Lib.hid (HK3A.out.below hb4)
        have HT5 := Lib.hid (show ∀ W, Below w.heap.size w W → Below W4.heap.size W4 W → Calls Tryd.prog 28 #[.agg #[.int .i64 t.1, .string ⟨t.2.1.toArray⟩, .int .i64 t.2.2.1, .slice A m c]] W (RetW (.tuple #[.string ⟨l.toArray⟩, .int .i64 0]) W) from fun W h1 h2 => by
          have h := HTX.out _ _ t W h1 ⟨_, rfl, HK4.out.below h2⟩ HOK.out
          rw [HXT.out] at h
          exact h)
        clear HK1 HK2 HK3 HK3A HK4 HTX
        generalize t.1 = kk at *
        generalize t.2.1 = knm at *
        generalize t.2.2.1 = kn at *
        have x0 := HX4.out.cell 0
        have x1 := HX4.out.cell 1
        have x2 := HX4.out.cell 2
        have x3 := HX4.out.cell 3
        have y0 := HY4.out.cell 0
        have y1 := HY4.out.cell 1
        have y2 := HY4.out.cell 2
        have y3 := HY4.out.cell 3
        clear hb4
        go_wp2_with fail
        refine cs.mono ?_
        rintro e W5 ⟨rfl, hb5⟩
        have HB5 := Lib.hid (HB4.out.trans (hb5.mono HB4.out.size))
        have HX5 := Lib.hid (HX4.out.below hb5)
        have HS5 := Lib.hid hb5
        have cl := HLV.out W5 HB5.out
        clear cs hb5 x0 x1 x2 x3 y0 y1 y2 y3
        go_wp2_with fail
        refine cl.mono ?_
        rintro e W6 ⟨rfl, hb6⟩
        have HB6 := Lib.hid (HB5.out.trans (hb6.mono HB5.out.size))
        have HX6 := Lib.hid (HX5.out.below hb6)
        have ct := HT5.out W6 HB6.out (HS5.out.trans (hb6.mono HS5.out.size))
        clear cl hb6
        have x0 := HX6.out.cell 0
        have x1 := HX6.out.cell 1
        have x2 := HX6.out.cell 2
        have x3 := HX6.out.cell 3
        go_wp2_with fail
        refine ct.mono ?_
        rintro e W7 ⟨rfl, hb7⟩
        have HB7 := Lib.hid (HB6.out.trans (hb7.mono HB6.out.size))
        clear ct hb7 x0 x1 x2 x3
        go_wp2
        go_ret
        exact ⟨rfl, HB7.out⟩
end Go.Proofs.YtobpacebpiabcaaDoor
