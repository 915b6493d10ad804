/- ref's term: a bracket (printed by expand.py). -/
import Derived.Test.YtobpacebpiabcaaDoorFd
namespace Go.Proofs.YtobpacebpiabcaaDoor
open Go.RowKit Go.Lib
set_option maxRecDepth 100000 in
set_option maxHeartbeats 25600000 in
theorem rterm_br (M : Nat) (IH : RTermOk M) (m : Nat) (s : List UInt8) (L : Int) (w : World) (hm : m < M) (hm1 : m ≤ 1000) (hs : s.length ≤ 1000000) (hL : L = ((m + 1 : Nat) : Int)) (hbr : begB s [40] = true) : Calls Tryd.prog 49 #[.string ⟨s.toArray⟩, .int .i64 L] w (RetRT (m + 1) s w) := by
  have d0 : decide (L < 1) = false := decide_eq_false (by omega)
  obtain ⟨L1, hL1⟩ : ∃ L1, L - 1 = L1 := ⟨_, rfl⟩
  have u1 : IntKind.i64.wrap (L - 1) = L1 := by rw [IntKind.wrap_i64]; omega
  have HI := Lib.hid (show ∀ (s' : List UInt8) W, s'.length ≤ s.length → Calls Tryd.prog 49 #[.string ⟨s'.toArray⟩, .int .i64 L1] W (RetRT m s' W) from fun s' W h => IH m s' L1 W hm hm1 (by omega) (by omega))
  have h1n : 1 ≤ s.length := by
    obtain ⟨r, e⟩ := beg_eq hbr
    rw [e]; simp
  have HBR := Lib.hid hbr
  have HLE := Lib.hid hs
  clear IH hm hm1 hL hL1 hbr
  obtain ⟨n, hn⟩ : ∃ n, s.length = n := ⟨_, rfl⟩
  have hz : (⟨s.toArray⟩ : ByteArray).size = n := by show s.toArray.size = _; simpa using hn
  have HN := Lib.hid hn
  have HPN := Lib.hid (show rt (m + 1) s = none → ∀ (k : Int) (nm : List UInt8) (n : Int) (A : Option Addr) (q c : Nat) (r : List UInt8) (e : Ending) (w' : World), e = .returned (.tuple #[.agg #[.int .i64 k, .string ⟨nm.toArray⟩, .int .i64 n, .slice A q c], .string ⟨r.toArray⟩, .bool false]) → Below w.heap.size w w' → RetRT (m + 1) s w e w' from fun h k nm n A q c r e w' h1 h2 => .inr ⟨k, nm, n, A, q, c, r, h, h1, h2⟩)
  have HPS := Lib.hid (show ∀ t rest v (e : Ending) (w' : World), rt (m + 1) s = some (t, rest) → e = .returned (.tuple #[v, .string ⟨rest.toArray⟩, .bool true]) → TmV (fun b => w.heap.size ≤ b) w' v t → Below w.heap.size w w' → RetRT (m + 1) s w e w' from fun t rest v e w' h h1 h2 h3 => .inl ⟨t, rest, v, h, h1, h2, h3⟩)
  generalize hPost : RetRT (m + 1) s w = Post at *
  obtain ⟨W2, hW2⟩ : ∃ W2, W2 = (w.alloc (.cells #[.int .i64 0, .string ⟨#[]⟩, .int .i64 0, .slice none 0 0] 26)).alloc (.cells #[.int .i64 0, .string ⟨#[]⟩, .int .i64 0, .slice none 0 0] 26) := ⟨_, rfl⟩
  have HW2 := Lib.hid (show Below w.heap.size w W2 by rw [hW2]; exact ((Below.refl _ _).alloc (Nat.le_refl _) _).alloc (by simp) _)
  have HZ2 := Lib.hid (show Blk W2 w.heap.size #[.int .i64 0, .string ⟨#[]⟩, .int .i64 0, .slice none 0 0] 26 by rw [hW2]; exact (Blk.new w _ _).below ((Below.refl _ _).alloc (Nat.le_refl _) _))
  obtain ⟨H, hH⟩ : ∃ H, w.heap.size + 1 = H := ⟨_, rfl⟩
  have HH2 := Lib.hid (show Blk W2 H #[.int .i64 0, .string ⟨#[]⟩, .int .i64 0, .slice none 0 0] 26 by
    have h := Blk.new (w.alloc (.cells #[.int .i64 0, .string ⟨#[]⟩, .int .i64 0, .slice none 0 0] 26)) #[.int .i64 0, .string ⟨#[]⟩, .int .i64 0, .slice none 0 0] 26
    rw [show (w.alloc (.cells #[.int .i64 0, .string ⟨#[]⟩, .int .i64 0, .slice none 0 0] 26)).heap.size = H by rw [← hH]; simp, ← hW2] at h
    exact h)
  have HHX := Lib.hid (show w.heap.size < H by omega)
  clear hPost hn
  go_enter Tryd.func49, Tryd.ntmps49
  go_upto_region 2 with fail
  rw [← hW2]
  clear hW2 hH
  have h1n' : 1 ≤ n := by rw [← HN.out]; exact h1n
  have d1 : (1 : Int) ≤ (n : Int) := by omega
  obtain ⟨s1, hs1⟩ : ∃ s1, s.drop 1 = s1 := ⟨_, rfl⟩
  have e1 : (⟨s.toArray⟩ : ByteArray).extract 1 n = ⟨s1.toArray⟩ := by rw [← HN.out, ← hs1]; exact ext_drop s 1
  have HS1 := Lib.hid hs1
  have hl1 : s1.length ≤ s.length := by rw [← hs1, List.length_drop]; omega
  have cb : Calls Tryd.prog 70 #[.string ⟨s.toArray⟩, .string ⟨#[40]⟩] W2 (RetV (.bool true) W2) := by
    have h := begins_any s [40] W2
    rw [HBR.out] at h
    exact h
  have ca := HI.out s1 W2 hl1
  have HL1 := Lib.hid hl1
  clear h1n hs hs1 hl1
  go_wp2_with fail
  refine cb.mono ?_
  rintro e W2' ⟨rfl, rfl⟩
  clear cb
  go_wp2_with fail
  refine ca.mono ?_
  rintro e W3 h3
  clear ca e1 d1 h1n'
  rcases h3 with ⟨a, rest, v, hr, rfl, ⟨u, rfl, hu⟩, hb3⟩ | ⟨k', nm', n', A', q', c', r', hr, rfl, hb3⟩
  · obtain ⟨Aa, na, ca, rfl, -⟩ := hu.open'
    have HR1 := Lib.hid (show rt m (s.drop 1) = some (a, rest) by rw [HS1.out]; exact hr)
    have HR1L := Lib.hid (show rest.length ≤ s.length by have h := rt_len m _ _ _ hr; have := HL1.out; omega)
    have HLO := Lib.hid (show w.heap.size + 1 ≤ W2.heap.size from HZ2.out.lt)
    have HKA := Lib.hid (hu.mono (T := fun b => w.heap.size + 1 ≤ b) (fun b hb _ => Nat.le_trans HLO.out hb))
    have HTA := Lib.hid (show a = (a.1, a.2.1, a.2.2.1, a.2.2.2) from rfl)
    have HW3 := Lib.hid (HW2.out.trans (hb3.mono HW2.out.size))
    have HZ3 := Lib.hid (HZ2.out.below hb3)
    have HH3 := Lib.hid (HH2.out.below hb3)
    go_upto_region 6 with fail
    obtain ⟨W4, hW4⟩ : ∃ W4, W4 = W3.alloc (.cells #[.int .i64 a.1, .string ⟨a.2.1.toArray⟩, .int .i64 a.2.2.1, .slice Aa na ca] 26) := ⟨_, rfl⟩
    have hb4 : Below W3.heap.size W3 W4 := by rw [hW4]; exact (Below.refl _ _).alloc (Nat.le_refl _) _
    have HX4 := Lib.hid (show Blk W4 W3.heap.size #[.int .i64 a.1, .string ⟨a.2.1.toArray⟩, .int .i64 a.2.2.1, .slice Aa na ca] 26 by rw [hW4]; exact Blk.new _ _ _)
    rw [← hW4]
    clear hW4 hr hu
    have HW4 := Lib.hid (HW3.out.trans (hb4.mono HW3.out.size))
    have HZ4 := Lib.hid (HZ3.out.below hb4)
    have HH4 := Lib.hid (HH3.out.below hb4)
    have HKA4 := Lib.hid (HKA.out.below hb4)
    generalize hka : a.1 = ka at *
    generalize hkb : a.2.1 = kb at *
    generalize hkc : a.2.2.1 = kc at *
    have HTT := Lib.hid (And.intro hka (And.intro hkb hkc))
    clear hka hkb hkc hb3 hb4
    have HX3N := Lib.hid (show w.heap.size < W3.heap.size from HZ3.out.lt)
    generalize W3.heap.size = X3 at *
    obtain ⟨W5, hW5⟩ : ∃ W5, W5 = W4.alloc (.cells #[.string ⟨#[32, 97, 110, 100, 32]⟩, .string ⟨#[32, 111, 114, 32]⟩, .string ⟨#[32, 115, 105, 110, 99, 101, 32]⟩] 9) := ⟨_, rfl⟩
    have hb5 : Below W4.heap.size W4 W5 := by rw [hW5]; exact (Below.refl _ _).alloc (Nat.le_refl _) _
    have hv5 : Blk W5 W4.heap.size #[.string ⟨#[32, 97, 110, 100, 32]⟩, .string ⟨#[32, 111, 114, 32]⟩, .string ⟨#[32, 115, 105, 110, 99, 101, 32]⟩] 9 := by rw [hW5]; exact Blk.new _ _ _
    obtain ⟨W6, hW6⟩ : ∃ W6, W6 = W5.alloc (.cells #[.int .i64 4, .int .i64 5, .int .i64 9] 3) := ⟨_, rfl⟩
    have hb6 : Below W5.heap.size W5 W6 := by rw [hW6]; exact (Below.refl _ _).alloc (Nat.le_refl _) _
    have hb46 := hb5.trans (hb6.mono hb5.size)
    obtain ⟨X5, hX5⟩ : ∃ X5, W4.heap.size + 1 = X5 := ⟨_, rfl⟩
    have HW3C := Lib.hid (show ∀ j, j < 3 → W6.cell? ⟨W4.heap.size, j, none⟩ = some (.string ⟨(w3 j).toArray⟩) from fun j hj => w3_cell (hv5.below hb6) hj)
    have HK3C := Lib.hid (show Blk W6 X5 #[.int .i64 4, .int .i64 5, .int .i64 9] 3 from by
      have h : Blk W6 W5.heap.size #[.int .i64 4, .int .i64 5, .int .i64 9] 3 := by rw [hW6]; exact Blk.new _ _ _
      rw [show W5.heap.size = X5 by rw [← hX5, hW5]; simp] at h
      exact h)
    have HX5N := Lib.hid (show w.heap.size < X5 from by have := HZ4.out.lt; omega)
    have HW6 := Lib.hid (HW4.out.trans (hb46.mono HW4.out.size))
    have HZ6 := Lib.hid (HZ4.out.below hb46)
    have HH6 := Lib.hid (HH4.out.below hb46)
    have HX6 := Lib.hid (HX4.out.below hb46)
    have HKA6 := Lib.hid (HKA4.out.below hb46)
    clear hv5 hb5 hb6 hb46
    obtain ⟨nr, hnr⟩ : ∃ nr, rest.length = nr := ⟨_, rfl⟩
    have hzr : (⟨rest.toArray⟩ : ByteArray).size = nr := by show rest.toArray.size = _; simpa using hnr
    have HNR := Lib.hid hnr
    clear hnr
    go_upto_region 9 with fail
    rw [← hW5, ← hW6]
    clear hW5 hW6 hX5
    go_wp2
    go_loopw [13] (fun i wr => ∃ j : Nat, j ≤ 3 ∧ i = .int .i64 j ∧ (∀ q, q < j → begB rest (w3 q) = false) ∧ W6 = wr) (fun i _ => 3 - (intOf i).toNat)
    case atStart => exact ⟨0, Nat.zero_le _, rfl, fun q hq => by omega, rfl⟩
    case round =>
      obtain ⟨j, hj, rfl, hall, rfl⟩ := hrel
      have HALL := Lib.hid hall
      clear hall
      by_cases hlt : j < 3
      · have cj := HW3C.out j hlt
        have hj3 : (j : Int) < 3 := by omega
        have hj0 : (0 : Int) ≤ (j : Int) := by omega
        have cb := begins_any rest (w3 j) W6
        obtain ⟨wd, hwd⟩ : ∃ wd, w3 j = wd := ⟨_, rfl⟩
        have HWD := Lib.hid hwd
        rw [hwd] at cb cj
        clear hwd
        cases hbj : begB rest wd with
        | false =>
          have HBJ := Lib.hid hbj
          rw [hbj] at cb
          clear hbj
          go_wp2_with fail
          refine cb.mono ?_
          rintro e w'' ⟨rfl, rfl⟩
          clear cb
          go_wp2
          go_roundw
          case rel => exact ⟨j + 1, by omega, by go_num, fun q hq => by
            by_cases e : q = j
            · subst e; rw [HWD.out]; exact HBJ.out
            · exact HALL.out q (by omega), trivial⟩
          case measure => simp [intOf]; omega
        | true =>
          rw [hbj] at cb
          have HT2 := Lib.hid (show two2 rest = some (k3 j, rest.drop wd.length) from by rw [← HWD.out]; exact two2_hit hlt HALL.out (by rw [HWD.out]; exact hbj))
          obtain ⟨kl, hkl⟩ : ∃ kl, wd.length = kl := ⟨_, rfl⟩
          have hzw : (⟨wd.toArray⟩ : ByteArray).size = kl := by show wd.toArray.size = _; simpa using hkl
          have hkn : kl ≤ nr := by
            obtain ⟨r, e⟩ := beg_eq hbj
            rw [← HNR.out, e, List.length_append]; omega
          obtain ⟨s2, hs2⟩ : ∃ s2, rest.drop kl = s2 := ⟨_, rfl⟩
          have e2 : (⟨rest.toArray⟩ : ByteArray).extract kl nr = ⟨s2.toArray⟩ := by rw [← HNR.out, ← hs2]; exact ext_drop rest kl
          rw [hkl, hs2] at HT2
          have hl2 : s2.length ≤ s.length := by rw [← hs2, List.length_drop]; have := HR1L.out; omega
          have HL2 := Lib.hid hl2
          have ca2 := HI.out s2 W6 hl2
          have hkn' : (kl : Int) ≤ (nr : Int) := by omega
          clear hbj hkl hs2 hl2
          go_wp2_with fail
          refine cb.mono ?_
          rintro e w'' ⟨rfl, rfl⟩
          clear cb
          go_wp2_with fail
          refine ca2.mono ?_
          rintro e W7 h7
          clear ca2 e2 cj
          rcases h7 with ⟨b, left, v, hr, rfl, ⟨u, rfl, hu⟩, hb7⟩ | ⟨k', nm', n', A', q', c', r', hr, rfl, hb7⟩
          · obtain ⟨Ab, nb, cb, rfl, -⟩ := hu.open'
            have HR2 := Lib.hid hr
            have HLO2 := Lib.hid (show w.heap.size + 1 ≤ W6.heap.size from HZ6.out.lt)
            have HKB := Lib.hid (hu.mono (T := fun b => w.heap.size + 1 ≤ b) (fun b hb _ => Nat.le_trans HLO2.out hb))
            have HLL := Lib.hid (show left.length ≤ s.length by have h := rt_len m _ _ _ hr; have := HL2.out; omega)
            have HW7 := Lib.hid (HW6.out.trans (hb7.mono HW6.out.size))
            have HZ7 := Lib.hid (HZ6.out.below hb7)
            have HH7 := Lib.hid (HH6.out.below hb7)
            have HX7 := Lib.hid (HX6.out.below hb7)
            have HKA7 := Lib.hid (HKA6.out.below hb7)
            have HC7 := Lib.hid (HK3C.out.below hb7)
            clear hr hu
            go_upto_region 14 with fail
            obtain ⟨W8, hW8⟩ : ∃ W8, W8 = W7.alloc (.cells #[.int .i64 b.1, .string ⟨b.2.1.toArray⟩, .int .i64 b.2.2.1, .slice Ab nb cb] 26) := ⟨_, rfl⟩
            have hb8 : Below W7.heap.size W7 W8 := by rw [hW8]; exact (Below.refl _ _).alloc (Nat.le_refl _) _
            have HV8 := Lib.hid (show Blk W8 W7.heap.size #[.int .i64 b.1, .string ⟨b.2.1.toArray⟩, .int .i64 b.2.2.1, .slice Ab nb cb] 26 by rw [hW8]; exact Blk.new _ _ _)
            rw [← hW8]
            clear hW8
            have HW8 := Lib.hid (HW7.out.trans (hb8.mono HW7.out.size))
            have HZ8 := Lib.hid (HZ7.out.below hb8)
            have HH8 := Lib.hid (HH7.out.below hb8)
            have HX8 := Lib.hid (HX7.out.below hb8)
            have HKA8 := Lib.hid (HKA7.out.below hb8)
            have HKB8 := Lib.hid (HKB.out.below hb8)
            have HC8 := Lib.hid (HC7.out.below hb8)
            have HX7N := Lib.hid (show w.heap.size < W7.heap.size from HZ7.out.lt)
            generalize hla : b.1 = la at *
            generalize hlb : b.2.1 = lb at *
            generalize hlc : b.2.2.1 = lc at *
            have HTU := Lib.hid (And.intro hla (And.intro hlb hlc))
            clear hla hlb hlc hb7 hb8
            generalize W7.heap.size = X7 at *
            have cbl : Calls Tryd.prog 70 #[.string ⟨left.toArray⟩, .string ⟨#[41]⟩] W8 (RetV (.bool (begB left [41])) W8) := begins_any left [41] W8
            cases hbl : begB left [41] with
            | false =>
              rw [hbl] at cbl
              have HRN := Lib.hid (rt_br3 HBR.out HR1.out HT2.out HR2.out hbl)
              clear hbl
              go_wp2_with fail
              refine cbl.mono ?_
              rintro e w3' ⟨rfl, rfl⟩
              clear cbl
              have n0 := HH8.out.cell 0
              have n1 := HH8.out.cell 1
              have n2 := HH8.out.cell 2
              have n3 := HH8.out.cell 3
              have z0 := HZ8.out.cell 0
              have z1 := HZ8.out.cell 1
              have z2 := HZ8.out.cell 2
              have z3 := HZ8.out.cell 3
              have g0 := HZ8.out.free 0
              have g1 := HZ8.out.free 1
              have g2 := HZ8.out.free 2
              have g3 := HZ8.out.free 3
              have HE := Lib.hid (HZ8.out.set4 (.int .i64 0) (.string ⟨#[]⟩) (.int .i64 0) (.slice none 0 0))
              have HEB := Lib.hid (below_set4' HW8.out (Nat.le_refl _) (.int .i64 0) (.string ⟨#[]⟩) (.int .i64 0) (.slice none 0 0))
              go_wp2
              have r0 := HE.out.cell 0
              have r1 := HE.out.cell 1
              have r2 := HE.out.cell 2
              have r3 := HE.out.cell 3
              refine bodyPost_ret (v := .tuple #[.agg #[.int .i64 0, .string ⟨#[]⟩, .int .i64 0, .slice none 0 0], .string ⟨#[]⟩, .bool false]) ?_ rfl (HPN.out HRN.out 0 [] 0 none 0 0 [] _ _ rfl HEB.out)
              simp [set4] at r0 r1 r2 r3
              simp [results, Tryd.results49, go_sem, r0, r1, r2, r3]
            | true =>
              rw [hbl] at cbl
              obtain ⟨lft, hlft⟩ : ∃ lft, left.drop 1 = lft := ⟨_, rfl⟩
              have HRS := Lib.hid (show rt (m + 1) s = some (twoT (k3 j) a b, lft) by rw [← hlft]; exact rt_br HBR.out HR1.out HT2.out HR2.out hbl)
              obtain ⟨nl, hnl⟩ : ∃ nl, left.length = nl := ⟨_, rfl⟩
              have hzl : (⟨left.toArray⟩ : ByteArray).size = nl := by show left.toArray.size = _; simpa using hnl
              have h1l : 1 ≤ nl := by
                obtain ⟨r, e⟩ := beg_eq hbl
                rw [← hnl, e]; simp
              have e3 : (⟨left.toArray⟩ : ByteArray).extract 1 nl = ⟨lft.toArray⟩ := by rw [← hnl, ← hlft]; exact ext_drop left 1
              have d1l : (1 : Int) ≤ (nl : Int) := by omega
              clear hbl hlft hnl
              go_wp2_with fail
              refine cbl.mono ?_
              rintro e w3' ⟨rfl, rfl⟩
              clear cbl
              have HLT3 := Lib.hid hlt
              go_upto_region 16 with fail
              refine Lex.wp_region_lex (fun w' => Blk w' X3 #[.int .i64 ka, .string ⟨kb.toArray⟩, .int .i64 kc, .slice Aa na ca] 26 ∧ Blk w' X7 #[.int .i64 la, .string ⟨lb.toArray⟩, .int .i64 lc, .slice Ab nb cb] 26 ∧ Blk w' X5 #[.int .i64 4, .int .i64 5, .int .i64 9] 3) (fun _ => true)
                [(0, true), (1, true), (2, true), (3, true), (4, true), (5, true), (8, true), (9, true), (6, false), (7, true), (10, false), (11, false), (12, false)]
                (by kernel_rfl) (by kernel_rfl) (by kernel_rfl) (by kernel_rfl) ⟨HX8.out, HV8.out, HC8.out⟩ ?_
              have hb0 : Below W8.heap.size W8 W8.drew := ⟨rfl, rfl, rfl, Nat.le_refl _, fun _ _ => rfl⟩
              have hw0 : Below w.heap.size w W8.drew := ⟨HW8.out.os, HW8.out.tape, HW8.out.output, HW8.out.size, HW8.out.block⟩
              generalize hV0 : W8.drew = V0 at *
              clear hV0
              iterate 8 (refine Lex.lex_take (v := ?_) rfl rfl (by rfl) (fun _ hS => ?_) ?_; rotate_left 1; (focus (have g0 := hS.1.cell 0; have g1 := hS.1.cell 1; have g2 := hS.1.cell 2; have g3 := hS.1.cell 3; have h0 := hS.2.1.cell 0; have h1 := hS.2.1.cell 1; have h2 := hS.2.1.cell 2; have h3 := hS.2.1.cell 3; have gk := k3_cell hS.2.2 HLT3.out; clear hS; go_simp; with_reducible rfl)); simp only [List.setIfInBounds_toArray, List.set_cons_zero, List.set_cons_succ])
              refine Lex.lex_do rfl ?_
              go_wp2_with fail
              refine Lex.lexQ_normal (fun _ => ⟨HX8.out.below (hb0.alloc hb0.size _), HV8.out.below (hb0.alloc hb0.size _), HC8.out.below (hb0.alloc hb0.size _)⟩) ?_
              refine Lex.lex_take (v := ?_) rfl rfl (by rfl) (fun _ hS => ?_) ?_; rotate_left 1; (focus (have g0 := hS.1.cell 0; have g1 := hS.1.cell 1; have g2 := hS.1.cell 2; have g3 := hS.1.cell 3; have h0 := hS.2.1.cell 0; have h1 := hS.2.1.cell 1; have h2 := hS.2.1.cell 2; have h3 := hS.2.1.cell 3; have gk := k3_cell hS.2.2 HLT3.out; clear hS; go_simp; with_reducible rfl)); simp only [List.setIfInBounds_toArray, List.set_cons_zero, List.set_cons_succ]
              refine Lex.lex_do rfl ?_
              obtain ⟨W9, hW9⟩ : ∃ W9, W9 = V0.alloc (.cells #[.int .i64 ka, .string ⟨kb.toArray⟩, .int .i64 kc, .slice Aa na ca, .int .i64 la, .string ⟨lb.toArray⟩, .int .i64 lc, .slice Ab nb cb] 26) := ⟨_, rfl⟩
              have hb9 : Below V0.heap.size V0 W9 := by rw [hW9]; exact (Below.refl _ _).alloc (Nat.le_refl _) _
              have HW9 := Lib.hid (hw0.trans (hb9.mono hw0.size))
              have HZ9 := Lib.hid ((HZ8.out.below hb0).below hb9)
              have HK9 := Lib.hid (show KidsV (fun b => w.heap.size + 1 ≤ b) W9 (.slice (some ⟨V0.heap.size, 0, none⟩) 2 2) (.cons ka kb kc a.2.2.2 b.fo) by have h := kidsV_two (t1 := a) (t2 := b) 26 (HKA8.out.below hb0) (HKB8.out.below hb0) (by have := HZ8.out.lt; have := hb0.size; omega); rw [HTT.out.1, HTT.out.2.1, HTT.out.2.2, HTU.out.1, HTU.out.2.1, HTU.out.2.2, ← hW9] at h; exact h)
              have HSF := Lib.hid (show Blk (set4 W9 w.heap.size (.int .i64 (k3 j)) (.string ⟨#[]⟩) (.int .i64 0) (.slice (some ⟨V0.heap.size, 0, none⟩) 2 2)) X3 #[.int .i64 ka, .string ⟨kb.toArray⟩, .int .i64 kc, .slice Aa na ca] 26 ∧ Blk (set4 W9 w.heap.size (.int .i64 (k3 j)) (.string ⟨#[]⟩) (.int .i64 0) (.slice (some ⟨V0.heap.size, 0, none⟩) 2 2)) X7 #[.int .i64 la, .string ⟨lb.toArray⟩, .int .i64 lc, .slice Ab nb cb] 26 ∧ Blk (set4 W9 w.heap.size (.int .i64 (k3 j)) (.string ⟨#[]⟩) (.int .i64 0) (.slice (some ⟨V0.heap.size, 0, none⟩) 2 2)) X5 #[.int .i64 4, .int .i64 5, .int .i64 9] 3 from ⟨blk_set4Oth ((HX8.out.below hb0).below hb9) (Ne.symm (Nat.ne_of_lt HX3N.out)) _ _ _ _, blk_set4Oth ((HV8.out.below hb0).below hb9) (Ne.symm (Nat.ne_of_lt HX7N.out)) _ _ _ _, blk_set4Oth ((HC8.out.below hb0).below hb9) (Ne.symm (Nat.ne_of_lt HX5N.out)) _ _ _ _⟩)
              rw [← hW9]
              clear hW9 hb9
              generalize V0.heap.size = BS at *
              have z0 := HZ9.out.cell 0
              have z1 := HZ9.out.cell 1
              have z2 := HZ9.out.cell 2
              have z3 := HZ9.out.cell 3
              have g0 := HZ9.out.free 0
              have g1 := HZ9.out.free 1
              have g2 := HZ9.out.free 2
              have g3 := HZ9.out.free 3
              go_wp2_with fail
              refine Lex.lexQ_normal (fun _ => HSF.out) ?_
              refine Lex.lex_do rfl ?_
              go_wp2_with fail
              refine Lex.lexQ_normal (fun _ => HSF.out) ?_
              refine Lex.lex_do rfl ?_
              go_wp2_with fail
              refine Lex.lexQ_normal (fun _ => HSF.out) ?_
              refine Lex.lex_nil ?_
              have HE := Lib.hid (HZ9.out.set4 (.int .i64 (k3 j)) (.string ⟨#[]⟩) (.int .i64 0) (.slice (some ⟨BS, 0, none⟩) 2 2))
              have HEB := Lib.hid (below_set4' HW9.out (Nat.le_refl _) (.int .i64 (k3 j)) (.string ⟨#[]⟩) (.int .i64 0) (.slice (some ⟨BS, 0, none⟩) 2 2))
              have HKE := Lib.hid ((HK9.out.set4 (B := w.heap.size) (fun b hb e => by omega) (.int .i64 (k3 j)) (.string ⟨#[]⟩) (.int .i64 0) (.slice (some ⟨BS, 0, none⟩) 2 2)).mono (T := fun b => w.heap.size ≤ b) (fun b hb _ => by omega))
              go_wp2
              have r0 := HE.out.cell 0
              have r1 := HE.out.cell 1
              have r2 := HE.out.cell 2
              have r3 := HE.out.cell 3
              refine bodyPost_ret (v := .tuple #[.agg #[.int .i64 (k3 j), .string ⟨#[]⟩, .int .i64 0, .slice (some ⟨BS, 0, none⟩) 2 2], .string ⟨lft.toArray⟩, .bool true]) ?_ rfl (HPS.out (twoT (k3 j) a b) lft _ _ _ HRS.out rfl ⟨.slice (some ⟨BS, 0, none⟩) 2 2, rfl, by show KidsV _ _ _ (.cons a.1 a.2.1 a.2.2.1 a.2.2.2 b.fo); rw [HTT.out.1, HTT.out.2.1, HTT.out.2.2]; exact HKE.out⟩ HEB.out)
              simp [set4] at r0 r1 r2 r3
              simp [results, Tryd.results49, go_sem, r0, r1, r2, r3]
          · have HRN := Lib.hid (rt_br2 HBR.out HR1.out HT2.out hr)
            have HW7 := Lib.hid (HW6.out.trans (hb7.mono HW6.out.size))
            have HZ7 := Lib.hid (HZ6.out.below hb7)
            have HH7 := Lib.hid (HH6.out.below hb7)
            go_upto_region 14 with fail
            obtain ⟨W8, hW8⟩ : ∃ W8, W8 = W7.alloc (.cells #[.int .i64 k', .string ⟨nm'.toArray⟩, .int .i64 n', .slice A' q' c'] 26) := ⟨_, rfl⟩
            have hb8 : Below W7.heap.size W7 W8 := by rw [hW8]; exact (Below.refl _ _).alloc (Nat.le_refl _) _
            rw [← hW8]
            clear hW8
            have HW8 := Lib.hid (HW7.out.trans (hb8.mono HW7.out.size))
            have HZ8 := Lib.hid (HZ7.out.below hb8)
            have HH8 := Lib.hid (HH7.out.below hb8)
            clear hr hb7 hb8
            have n0 := HH8.out.cell 0
            have n1 := HH8.out.cell 1
            have n2 := HH8.out.cell 2
            have n3 := HH8.out.cell 3
            have z0 := HZ8.out.cell 0
            have z1 := HZ8.out.cell 1
            have z2 := HZ8.out.cell 2
            have z3 := HZ8.out.cell 3
            have g0 := HZ8.out.free 0
            have g1 := HZ8.out.free 1
            have g2 := HZ8.out.free 2
            have g3 := HZ8.out.free 3
            have HE := Lib.hid (HZ8.out.set4 (.int .i64 0) (.string ⟨#[]⟩) (.int .i64 0) (.slice none 0 0))
            have HEB := Lib.hid (below_set4' HW8.out (Nat.le_refl _) (.int .i64 0) (.string ⟨#[]⟩) (.int .i64 0) (.slice none 0 0))
            go_wp2
            have r0 := HE.out.cell 0
            have r1 := HE.out.cell 1
            have r2 := HE.out.cell 2
            have r3 := HE.out.cell 3
            refine bodyPost_ret (v := .tuple #[.agg #[.int .i64 0, .string ⟨#[]⟩, .int .i64 0, .slice none 0 0], .string ⟨#[]⟩, .bool false]) ?_ rfl (HPN.out HRN.out 0 [] 0 none 0 0 [] _ _ rfl HEB.out)
            simp [set4] at r0 r1 r2 r3
            simp [results, Tryd.results49, go_sem, r0, r1, r2, r3]
      · obtain rfl : j = 3 := by omega
        have HRN := Lib.hid (rt_br1 HBR.out HR1.out (two2_none HALL.out))
        have n0 := HH6.out.cell 0
        have n1 := HH6.out.cell 1
        have n2 := HH6.out.cell 2
        have n3 := HH6.out.cell 3
        have z0 := HZ6.out.cell 0
        have z1 := HZ6.out.cell 1
        have z2 := HZ6.out.cell 2
        have z3 := HZ6.out.cell 3
        have g0 := HZ6.out.free 0
        have g1 := HZ6.out.free 1
        have g2 := HZ6.out.free 2
        have g3 := HZ6.out.free 3
        have HE := Lib.hid (HZ6.out.set4 (.int .i64 0) (.string ⟨#[]⟩) (.int .i64 0) (.slice none 0 0))
        have HEB := Lib.hid (below_set4' HW6.out (Nat.le_refl _) (.int .i64 0) (.string ⟨#[]⟩) (.int .i64 0) (.slice none 0 0))
        go_wp2
        have r0 := HE.out.cell 0
        have r1 := HE.out.cell 1
        have r2 := HE.out.cell 2
        have r3 := HE.out.cell 3
        refine bodyPost_ret (v := .tuple #[.agg #[.int .i64 0, .string ⟨#[]⟩, .int .i64 0, .slice none 0 0], .string ⟨#[]⟩, .bool false]) ?_ rfl (HPN.out HRN.out 0 [] 0 none 0 0 [] _ _ rfl HEB.out)
        simp [set4] at r0 r1 r2 r3
        simp [results, Tryd.results49, go_sem, r0, r1, r2, r3]
  · have HRN := Lib.hid (rt_br0 HBR.out (by rw [HS1.out]; exact hr))
    have HW3 := Lib.hid (HW2.out.trans (hb3.mono HW2.out.size))
    have HZ3 := Lib.hid (HZ2.out.below hb3)
    have HH3 := Lib.hid (HH2.out.below hb3)
    go_upto_region 6 with fail
    obtain ⟨W4, hW4⟩ : ∃ W4, W4 = W3.alloc (.cells #[.int .i64 k', .string ⟨nm'.toArray⟩, .int .i64 n', .slice A' q' c'] 26) := ⟨_, rfl⟩
    have hb4 : Below W3.heap.size W3 W4 := by rw [hW4]; exact (Below.refl _ _).alloc (Nat.le_refl _) _
    rw [← hW4]
    clear hW4
    have HW4 := Lib.hid (HW3.out.trans (hb4.mono HW3.out.size))
    have HZ4 := Lib.hid (HZ3.out.below hb4)
    have HH4 := Lib.hid (HH3.out.below hb4)
    clear hr hb3 hb4
    have n0 := HH4.out.cell 0
    have n1 := HH4.out.cell 1
    have n2 := HH4.out.cell 2
    have n3 := HH4.out.cell 3
    have z0 := HZ4.out.cell 0
    have z1 := HZ4.out.cell 1
    have z2 := HZ4.out.cell 2
    have z3 := HZ4.out.cell 3
    have g0 := HZ4.out.free 0
    have g1 := HZ4.out.free 1
    have g2 := HZ4.out.free 2
    have g3 := HZ4.out.free 3
    have HE := Lib.hid (HZ4.out.set4 (.int .i64 0) (.string ⟨#[]⟩) (.int .i64 0) (.slice none 0 0))
    have HEB := Lib.hid (below_set4' HW4.out (Nat.le_refl _) (.int .i64 0) (.string ⟨#[]⟩) (.int .i64 0) (.slice none 0 0))
    go_wp2
    have r0 := HE.out.cell 0
    have r1 := HE.out.cell 1
    have r2 := HE.out.cell 2
    have r3 := HE.out.cell 3
    refine bodyPost_ret (v := .tuple #[.agg #[.int .i64 0, .string ⟨#[]⟩, .int .i64 0, .slice none 0 0], .string ⟨#[]⟩, .bool false]) ?_ rfl (HPN.out HRN.out 0 [] 0 none 0 0 [] _ _ rfl HEB.out)
    simp [set4] at r0 r1 r2 r3
    simp [results, Tryd.results49, go_sem, r0, r1, r2, r3]
end Go.Proofs.YtobpacebpiabcaaDoor
