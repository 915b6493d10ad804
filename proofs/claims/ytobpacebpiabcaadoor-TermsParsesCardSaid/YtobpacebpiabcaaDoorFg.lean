/- ref's term: within (printed by expand.py). -/
import Derived.Test.YtobpacebpiabcaaDoorFf
namespace Go.Proofs.YtobpacebpiabcaaDoor
open Go.RowKit Go.Lib
theorem digs_end (k : Nat) (v : Int) (l : List UInt8) (h : k = 0 ∨ l = [] ∨ ∃ c r, l = c :: r ∧ digB c = false) : digs k v l = (v, l) := by
  cases k with
  | zero => rfl
  | succ k =>
    rcases h with h | h | ⟨c, r, h, hc⟩
    · omega
    · subst h; rfl
    · subst h
      rw [digs, if_neg (by rw [hc]; decide)]
theorem digs_more (k : Nat) (v : Int) (c : UInt8) (r : List UInt8) (hc : digB c = true) : digs (k + 1) v (c :: r) = digs k (10 * v + ((c.toNat : Int) - 48)) r := by
  rw [digs, if_pos hc]
set_option maxRecDepth 100000 in
set_option maxHeartbeats 25600000 in
theorem rterm_within (M : Nat) (IH : RTermOk M) (m : Nat) (s : List UInt8) (L : Int) (w : World) (hm : m < M) (hm1 : m ≤ 1000) (hs : s.length ≤ 1000000) (hL : L = ((m + 1 : Nat) : Int)) (hbr : begB s [40] = false) (hone : one2 s = none) (hwi : begB s (wWithin ++ sp) = true) : Calls Tryd.prog 49 #[.string ⟨s.toArray⟩, .int .i64 L] w (RetRT (m + 1) s w) := by
  have d0 : decide (L < 1) = false := decide_eq_false (by omega)
  obtain ⟨L1, hL1⟩ : ∃ L1, L - 1 = L1 := ⟨_, rfl⟩
  have u1 : IntKind.i64.wrap (L - 1) = L1 := by rw [IntKind.wrap_i64]; omega
  have HI := Lib.hid (show ∀ (s' : List UInt8) W, s'.length ≤ s.length → Calls Tryd.prog 49 #[.string ⟨s'.toArray⟩, .int .i64 L1] W (RetRT m s' W) from fun s' W h => IH m s' L1 W hm hm1 (by omega) (by omega))
  have HBR := Lib.hid hbr
  have HONE := Lib.hid hone
  have HNO := Lib.hid (one2_no hone)
  have HWI := Lib.hid hwi
  have h7 : 7 ≤ s.length := by
    obtain ⟨r, e⟩ := beg_eq hwi
    rw [e, List.length_append]; simp [wWithin, sp]
  have hs' := hs
  clear IH hm hm1 hL hL1 hbr hone hwi hs
  obtain ⟨n, hn⟩ : ∃ n, s.length = n := ⟨_, rfl⟩
  have hz : (⟨s.toArray⟩ : ByteArray).size = n := by show s.toArray.size = _; simpa using hn
  have HN := Lib.hid hn
  have HPN := Lib.hid (show rt (m + 1) s = none → ∀ (k : Int) (nm : List UInt8) (n : Int) (A : Option Addr) (q c : Nat) (r : List UInt8) (e : Ending) (w' : World), e = .returned (.tuple #[.agg #[.int .i64 k, .string ⟨nm.toArray⟩, .int .i64 n, .slice A q c], .string ⟨r.toArray⟩, .bool false]) → Below w.heap.size w w' → RetRT (m + 1) s w e w' from fun h k nm n A q c r e w' h1 h2 => .inr ⟨k, nm, n, A, q, c, r, h, h1, h2⟩)
  have HPS := Lib.hid (show ∀ t rest v (e : Ending) (w' : World), rt (m + 1) s = some (t, rest) → e = .returned (.tuple #[v, .string ⟨rest.toArray⟩, .bool true]) → TmV (fun b => w.heap.size ≤ b) w' v t → Below w.heap.size w w' → RetRT (m + 1) s w e w' from fun t rest v e w' h h1 h2 h3 => .inl ⟨t, rest, v, h, h1, h2, h3⟩)
  generalize hPost : RetRT (m + 1) s w = Post at *
  obtain ⟨W2, hW2⟩ : ∃ W2, W2 = (w.alloc (.cells #[.int .i64 0, .string ⟨#[]⟩, .int .i64 0, .slice none 0 0] 26)).alloc (.cells #[.int .i64 0, .string ⟨#[]⟩, .int .i64 0, .slice none 0 0] 26) := ⟨_, rfl⟩
  have HW2 := Lib.hid (show Below w.heap.size w W2 by rw [hW2]; exact ((Below.refl _ _).alloc (Nat.le_refl _) _).alloc (by simp) _)
  have HZ2 := Lib.hid (show Blk W2 w.heap.size #[.int .i64 0, .string ⟨#[]⟩, .int .i64 0, .slice none 0 0] 26 by rw [hW2]; exact (Blk.new w _ _).below ((Below.refl _ _).alloc (Nat.le_refl _) _))
  obtain ⟨H, hH⟩ : ∃ H, w.heap.size + 1 = H := ⟨_, rfl⟩
  have HH2 := Lib.hid (show Blk W2 H #[.int .i64 0, .string ⟨#[]⟩, .int .i64 0, .slice none 0 0] 26 by
    have h := Blk.new (w.alloc (.cells #[.int .i64 0, .string ⟨#[]⟩, .int .i64 0, .slice none 0 0] 26)) #[.int .i64 0, .string ⟨#[]⟩, .int .i64 0, .slice none 0 0] 26
    rw [show (w.alloc (.cells #[.int .i64 0, .string ⟨#[]⟩, .int .i64 0, .slice none 0 0] 26)).heap.size = H by rw [← hH]; simp, ← hW2] at h
    exact h)
  have HHX := Lib.hid (show w.heap.size < H by omega)
  clear hPost hn
  go_enter Tryd.func49, Tryd.ntmps49
  go_upto_region 2 with fail
  rw [← hW2]
  clear hW2 hH
  have h7n : 7 ≤ n := by rw [← HN.out]; exact h7
  have hn6 : n ≤ 1000000 := by rw [← HN.out]; exact hs'
  clear h7 hs'
  have cb : Calls Tryd.prog 70 #[.string ⟨s.toArray⟩, .string ⟨#[40]⟩] W2 (RetV (.bool false) W2) := by
    have h := begins_any s [40] W2
    rw [HBR.out] at h
    exact h
  go_wp2_with fail
  refine cb.mono ?_
  rintro e W2' ⟨rfl, rfl⟩
  clear cb
  obtain ⟨W3, hW3⟩ : ∃ W3, W3 = W2.alloc (.cells #[.string ⟨#[110, 111, 116, 32]⟩, .string ⟨#[112, 114, 101, 118, 32]⟩, .string ⟨#[111, 110, 99, 101, 32]⟩, .string ⟨#[97, 108, 119, 97, 121, 115, 32]⟩] 9) := ⟨_, rfl⟩
  have hb3 : Below W2.heap.size W2 W3 := by rw [hW3]; exact (Below.refl _ _).alloc (Nat.le_refl _) _
  have hv3 : Blk W3 W2.heap.size #[.string ⟨#[110, 111, 116, 32]⟩, .string ⟨#[112, 114, 101, 118, 32]⟩, .string ⟨#[111, 110, 99, 101, 32]⟩, .string ⟨#[97, 108, 119, 97, 121, 115, 32]⟩] 9 := by rw [hW3]; exact Blk.new _ _ _
  obtain ⟨W4, hW4⟩ : ∃ W4, W4 = W3.alloc (.cells #[.int .i64 3, .int .i64 6, .int .i64 7, .int .i64 8] 3) := ⟨_, rfl⟩
  have hb4 : Below W3.heap.size W3 W4 := by rw [hW4]; exact (Below.refl _ _).alloc (Nat.le_refl _) _
  have hb24 := hb3.trans (hb4.mono hb3.size)
  have HW4C := Lib.hid (show ∀ j, j < 4 → W4.cell? ⟨W2.heap.size, j, none⟩ = some (.string ⟨(w4 j).toArray⟩) from fun j hj => w4_cell (hv3.below hb4) hj)
  have HW4 := Lib.hid (HW2.out.trans (hb24.mono HW2.out.size))
  have HZ4 := Lib.hid (HZ2.out.below hb24)
  have HH4 := Lib.hid (HH2.out.below hb24)
  clear hv3 hb3 hb4 hb24
  go_upto_region 19 with fail
  rw [← hW3, ← hW4]
  clear hW3 hW4
  go_wp2
  go_loopw [19] (fun i wr => ∃ j : Nat, j ≤ 4 ∧ i = .int .i64 j ∧ W4 = wr) (fun i _ => 4 - (intOf i).toNat)
  case atStart => exact ⟨0, Nat.zero_le _, rfl, rfl⟩
  case round =>
    obtain ⟨j, hj, rfl, rfl⟩ := hrel
    by_cases hlt : j < 4
    · have cj := HW4C.out j hlt
      have hj3 : (j : Int) < 4 := by omega
      have hj0 : (0 : Int) ≤ (j : Int) := by omega
      have cb := begins_any s (w4 j) W4
      rw [HNO.out j hlt] at cb
      generalize w4 j = wd at *
      go_wp2_with fail
      refine cb.mono ?_
      rintro e w'' ⟨rfl, rfl⟩
      clear cb
      go_wp2
      go_roundw
      case rel => exact ⟨j + 1, by omega, by go_num, trivial⟩
      case measure => simp [intOf]; omega
    · obtain rfl : j = 4 := by omega
      clear HW4C hj hlt
      have cw : Calls Tryd.prog 70 #[.string ⟨s.toArray⟩, .string ⟨#[119, 105, 116, 104, 105, 110, 32]⟩] W4 (RetV (.bool true) W4) := by
        have h := begins_any s [119, 105, 116, 104, 105, 110, 32] W4
        rw [show begB s [119, 105, 116, 104, 105, 110, 32] = true from HWI.out] at h
        exact h
      obtain ⟨D, hD⟩ : ∃ D, digs 8 0 (s.drop 7) = D := ⟨_, rfl⟩
      have HD := Lib.hid hD
      clear hD
      go_wp2_with fail
      refine cw.mono ?_
      rintro e w'' ⟨rfl, rfl⟩
      clear cw
      go_wp2
      go_loopw [23, 24] (fun vv pp wr => ∃ (p u : Nat), 7 ≤ p ∧ p ≤ 15 ∧ p ≤ n ∧ pp = .int .i64 p ∧ vv = .int .i64 u ∧ digs (15 - p) (u : Int) (s.drop p) = D ∧ u < 10 ^ (p - 7) ∧ W4 = wr) (fun _ pp _ => 15 - (intOf pp).toNat)
      case atStart => exact ⟨7, 0, by omega, by omega, h7n, rfl, rfl, HD.out, by decide, rfl⟩
      case round =>
        obtain ⟨p, u, hp7, hp15, hpn, rfl, rfl, hdg, hu, rfl⟩ := hrel
        have HDG := Lib.hid hdg
        have HU := Lib.hid hu
        clear hdg hu
        have hp0 : (0 : Int) ≤ (p : Int) := by omega
        go_upto_region 27 with fail
        go_cut [149] (fun c wx => ∃ dg : Bool × Unit, c = .bool dg.1 ∧ W4 = wx ∧ (dg.1 = true → p < n ∧ p < 15 ∧ ∃ q : Nat, 48 ≤ q ∧ q ≤ 57 ∧ ∀ h : p < s.length, s[p].toNat = q) ∧ (dg.1 = false → D = ((u : Int), s.drop p)))
        case first =>
          by_cases h1 : p < n
          case neg =>
            have d1 : decide ((p : Int) < (n : Int)) = false := decide_eq_false (by omega)
            have d1' : (n : Int) ≤ (p : Int) := by omega
            have HQ := Lib.hid (show D = ((u : Int), s.drop p) from by rw [← HDG.out]; exact digs_end _ _ _ (.inr (.inl (List.drop_eq_nil_of_le (by have := HN.out; omega)))))
            go_wp2_with fail
            go_meet
            exact ⟨(false, ()), rfl, rfl, fun h => (by cases h), fun _ => HQ.out⟩
          have d1 : (p : Int) < (n : Int) := by omega
          by_cases h2 : p < 15
          case neg =>
            have d2 : decide ((p : Int) < 15) = false := decide_eq_false (by omega)
            have d2' : (15 : Int) ≤ (p : Int) := by omega
            have HQ := Lib.hid (show D = ((u : Int), s.drop p) from by rw [← HDG.out]; exact digs_end _ _ _ (.inl (by omega)))
            go_wp2_with fail
            go_meet
            exact ⟨(false, ()), rfl, rfl, fun h => (by cases h), fun _ => HQ.out⟩
          have d2 : (p : Int) < 15 := by omega
          have hlt2 : p < s.length := by have := HN.out; omega
          obtain ⟨q, hq'⟩ : ∃ q, s[p].toNat = q := ⟨_, rfl⟩
          have hq : ((⟨s.toArray⟩ : ByteArray)[p]'(by show p < s.toArray.size; simpa using hlt2)).toNat = q := by
            rw [← hq']
            rfl
          have HDR := Lib.hid (List.drop_eq_getElem_cons hlt2)
          have HQ' := Lib.hid hq'
          clear hq'
          by_cases h3 : 48 ≤ q
          case neg =>
            have d3 : decide ((48 : Int) ≤ (q : Int)) = false := decide_eq_false (by omega)
            have d3' : (q : Int) < 48 := by omega
            have HQ := Lib.hid (show D = ((u : Int), s.drop p) from by rw [← HDG.out]; exact digs_end _ _ _ (.inr (.inr ⟨_, _, HDR.out, by rw [digB_eq _ q HQ'.out, decide_eq_false h3]; rfl⟩)))
            go_wp2_with fail
            go_meet
            exact ⟨(false, ()), rfl, rfl, fun h => (by cases h), fun _ => HQ.out⟩
          have d3 : (48 : Int) ≤ (q : Int) := by omega
          by_cases h4 : q ≤ 57
          case neg =>
            have d4 : decide ((q : Int) ≤ 57) = false := decide_eq_false (by omega)
            have d4' : (57 : Int) < (q : Int) := by omega
            have HQ := Lib.hid (show D = ((u : Int), s.drop p) from by rw [← HDG.out]; exact digs_end _ _ _ (.inr (.inr ⟨_, _, HDR.out, by rw [digB_eq _ q HQ'.out, decide_eq_false h4, Bool.and_false]⟩)))
            go_wp2_with fail
            go_meet
            exact ⟨(false, ()), rfl, rfl, fun h => (by cases h), fun _ => HQ.out⟩
          have d4 : (q : Int) ≤ 57 := by omega
          go_wp2_with fail
          go_meet
          exact ⟨(true, ()), rfl, rfl, fun _ => ⟨h1, h2, q, h3, h4, fun _ => HQ'.out⟩, fun h => (by cases h)⟩
        case rest =>
          obtain ⟨⟨dg, _⟩, rfl, rfl, hyes, hno⟩ := hcut
          have HYES := Lib.hid hyes
          have HNO2 := Lib.hid hno
          clear hyes hno
          cases dg with
          | true =>
            obtain ⟨h1, h2, q, h3, h4, h5⟩ := HYES.out rfl
            have hlt2 : p < s.length := by have := HN.out; omega
            have hq : ((⟨s.toArray⟩ : ByteArray)[p]'(by show p < s.toArray.size; simpa using hlt2)).toNat = q := by
              rw [← h5 hlt2]
              rfl
            have HQ' := Lib.hid (h5 hlt2)
            have HDR := Lib.hid (List.drop_eq_getElem_cons hlt2)
            have hpow := Nat.pow_le_pow_right (n := 10) (by omega) (show p - 7 ≤ 7 by omega)
            have hu7 : u < 10000000 := Nat.lt_of_lt_of_le HU.out hpow
            obtain ⟨u2, hu2⟩ : ∃ u2, 10 * u + (q - 48) = u2 := ⟨_, rfl⟩
            have HU2 := Lib.hid (show u2 < 10 ^ (p + 1 - 7) from by
              rw [show p + 1 - 7 = (p - 7) + 1 by omega, Nat.pow_succ]
              have h := HU.out
              generalize 10 ^ (p - 7) = X at *
              omega)
            have HDG2 := Lib.hid (show digs (15 - (p + 1)) (u2 : Int) (s.drop (p + 1)) = D from by
              rw [← HDG.out, HDR.out, show 15 - p = (15 - (p + 1)) + 1 by omega, digs_more _ _ _ _ (by rw [digB_eq _ q HQ'.out, decide_eq_true h3, decide_eq_true h4]; rfl), HQ'.out]
              congr 1
              omega)
            have HU3 := Lib.hid hu2
            have v1 : IntKind.i64.wrap (10 * (u : Int)) = 10 * (u : Int) := by rw [IntKind.wrap_i64]; omega
            have v2 : IntKind.u8.wrap ((q : Int) - 48) = (q : Int) - 48 := by rw [IntKind.wrap_u8]; omega
            have v3 : IntKind.i64.wrap ((q : Int) - 48) = (q : Int) - 48 := by rw [IntKind.wrap_i64]; omega
            have v4 : IntKind.i64.wrap (10 * (u : Int) + ((q : Int) - 48)) = 10 * (u : Int) + ((q : Int) - 48) := by rw [IntKind.wrap_i64]; omega
            have d1 : (p : Int) < (n : Int) := by omega
            have HEQ := Lib.hid (show 10 * (u : Int) + ((q : Int) - 48) = (u2 : Int) by omega)
            clear hpow hu2 h5
            go_wp2
            go_roundw
            case rel => exact ⟨p + 1, u2, by omega, by omega, by omega, by go_num, congrArg (Value.int .i64) HEQ.out, HDG2.out, HU2.out, trivial⟩
            case measure => simp [intOf]; omega
          | false =>
            have HDE := Lib.hid (HNO2.out rfl)
            obtain ⟨s3, hs3⟩ : ∃ s3, s.drop p = s3 := ⟨_, rfl⟩
            have e3 : (⟨s.toArray⟩ : ByteArray).extract p n = ⟨s3.toArray⟩ := by rw [← HN.out, ← hs3]; exact ext_drop s p
            have HS3 := Lib.hid hs3
            have HD2 := Lib.hid (show digs 8 0 (s.drop 7) = ((u : Int), s3) by rw [HD.out, HDE.out, hs3])
            clear hs3
            have hpn' : (p : Int) ≤ (n : Int) := by omega
            have cs : Calls Tryd.prog 70 #[.string ⟨s3.toArray⟩, .string ⟨#[32]⟩] W4 (RetV (.bool (begB s3 sp)) W4) := begins_any s3 [32] W4
            cases hsp : begB s3 sp with
            | false =>
              rw [hsp] at cs
              have HRN := Lib.hid (rt_within0 (m := m) HBR.out HONE.out HWI.out (by rw [HD2.out]; exact hsp))
              clear hsp
              go_wp2_with fail
              refine cs.mono ?_
              rintro e w3' ⟨rfl, rfl⟩
              clear cs
              have n0 := HH4.out.cell 0
              have n1 := HH4.out.cell 1
              have n2 := HH4.out.cell 2
              have n3 := HH4.out.cell 3
              have z0 := HZ4.out.cell 0
              have z1 := HZ4.out.cell 1
              have z2 := HZ4.out.cell 2
              have z3 := HZ4.out.cell 3
              have g0 := HZ4.out.free 0
              have g1 := HZ4.out.free 1
              have g2 := HZ4.out.free 2
              have g3 := HZ4.out.free 3
              have HE := Lib.hid (HZ4.out.set4 (.int .i64 0) (.string ⟨#[]⟩) (.int .i64 0) (.slice none 0 0))
              have HEB := Lib.hid (below_set4' HW4.out (Nat.le_refl _) (.int .i64 0) (.string ⟨#[]⟩) (.int .i64 0) (.slice none 0 0))
              go_wp2
              have r0 := HE.out.cell 0
              have r1 := HE.out.cell 1
              have r2 := HE.out.cell 2
              have r3 := HE.out.cell 3
              refine bodyPost_ret (v := .tuple #[.agg #[.int .i64 0, .string ⟨#[]⟩, .int .i64 0, .slice none 0 0], .string ⟨#[]⟩, .bool false]) ?_ rfl (HPN.out HRN.out 0 [] 0 none 0 0 [] _ _ rfl HEB.out)
              simp [set4] at r0 r1 r2 r3
              simp [results, Tryd.results49, go_sem, r0, r1, r2, r3]
            | true =>
              rw [hsp] at cs
              have HSP := Lib.hid hsp
              have h3l : p + 1 ≤ n := by
                obtain ⟨r, e⟩ := beg_eq hsp
                have h := congrArg List.length e
                rw [← HS3.out, List.length_drop, HN.out, List.length_append] at h
                simp [sp] at h
                omega
              obtain ⟨s4, hs4⟩ : ∃ s4, s.drop (p + 1) = s4 := ⟨_, rfl⟩
              have e4 : (⟨s.toArray⟩ : ByteArray).extract (p + 1) n = ⟨s4.toArray⟩ := by rw [← HN.out, ← hs4]; exact ext_drop s (p + 1)
              have HS4 := Lib.hid (show s3.drop 1 = s4 by rw [← HS3.out, ← hs4, List.drop_drop])
              have ca2 := HI.out s4 W4 (by rw [← hs4, List.length_drop]; omega)
              have b4 : (p : Int) + 1 ≤ (n : Int) := by omega
              have u4 : IntKind.i64.wrap ((p : Int) + 1) = (p : Int) + 1 := by rw [IntKind.wrap_i64]; omega
              clear hsp hs4
              go_wp2_with fail
              refine cs.mono ?_
              rintro e w3' ⟨rfl, rfl⟩
              clear cs
              go_wp2_with fail
              refine ca2.mono ?_
              rintro e W5 h5
              clear ca2 e3 e4
              rcases h5 with ⟨a, rest, v, hr, rfl, ⟨uu, rfl, hu⟩, hb5⟩ | ⟨ka, kb, kc, Aa, na, ca, rst, hr, rfl, hb5⟩
              · obtain ⟨Aa, na, ca, rfl, -⟩ := hu.open'
                have HRS := Lib.hid (show rt (m + 1) s = some (oneT 10 (u : Int) a, rest) from by
                  have h := rt_within (m := m) (a := a) (rest := rest) HBR.out HONE.out HWI.out (by rw [HD2.out]; exact HSP.out) (by rw [HD2.out]; show rt m (s3.drop 1) = _; rw [HS4.out]; exact hr)
                  rw [HD2.out] at h
                  exact h)
                have HLO := Lib.hid (show w.heap.size + 1 ≤ W4.heap.size from HZ4.out.lt)
                have HKA := Lib.hid (hu.mono (T := fun b => w.heap.size + 1 ≤ b) (fun b hb _ => Nat.le_trans HLO.out hb))
                have HW5 := Lib.hid (HW4.out.trans (hb5.mono HW4.out.size))
                have HZ5 := Lib.hid (HZ4.out.below hb5)
                have HH5 := Lib.hid (HH4.out.below hb5)
                clear hr hu
                go_upto_region 32 with fail
                obtain ⟨W6, hW6⟩ : ∃ W6, W6 = W5.alloc (.cells #[.int .i64 a.1, .string ⟨a.2.1.toArray⟩, .int .i64 a.2.2.1, .slice Aa na ca] 26) := ⟨_, rfl⟩
                have hb6 : Below W5.heap.size W5 W6 := by rw [hW6]; exact (Below.refl _ _).alloc (Nat.le_refl _) _
                have HV6 := Lib.hid (show Blk W6 W5.heap.size #[.int .i64 a.1, .string ⟨a.2.1.toArray⟩, .int .i64 a.2.2.1, .slice Aa na ca] 26 by rw [hW6]; exact Blk.new _ _ _)
                rw [← hW6]
                clear hW6
                have HW6 := Lib.hid (HW5.out.trans (hb6.mono HW5.out.size))
                have HZ6 := Lib.hid (HZ5.out.below hb6)
                have HH6 := Lib.hid (HH5.out.below hb6)
                have HKA6 := Lib.hid (HKA.out.below hb6); generalize hka : a.1 = ka at *; generalize hkb : a.2.1 = kb at *; generalize hkc : a.2.2.1 = kc at *; have HTT := Lib.hid (And.intro hka (And.intro hkb hkc)); clear hka hkb hkc
                obtain ⟨W9, hW9⟩ : ∃ W9, W9 = W6.alloc (.cells #[.int .i64 ka, .string ⟨kb.toArray⟩, .int .i64 kc, .slice Aa na ca] 26) := ⟨_, rfl⟩
                have hb9 : Below W6.heap.size W6 W9 := by rw [hW9]; exact (Below.refl _ _).alloc (Nat.le_refl _) _
                have HW9 := Lib.hid (HW6.out.trans (hb9.mono HW6.out.size))
                have HZ9 := Lib.hid (HZ6.out.below hb9)
                have HH9 := Lib.hid (HH6.out.below hb9)
                have HK9 := Lib.hid (show KidsV (fun b => w.heap.size + 1 ≤ b) W9 (.slice (some ⟨W6.heap.size, 0, none⟩) 1 1) a.fo by have h := kidsV_one' (t := a) 26 HKA6.out (by have := HZ6.out.lt; omega); rw [HTT.out.1, HTT.out.2.1, HTT.out.2.2, ← hW9] at h; exact h)
                have x0 := HV6.out.cell 0
                have x1 := HV6.out.cell 1
                have x2 := HV6.out.cell 2
                have x3 := HV6.out.cell 3
                rw [hW9] at HZ9 HW9
                rw [hW9] at HK9
                clear hb5 hb6 hb9
                have z0 := HZ9.out.cell 0
                have z1 := HZ9.out.cell 1
                have z2 := HZ9.out.cell 2
                have z3 := HZ9.out.cell 3
                have g0 := HZ9.out.free 0
                have g1 := HZ9.out.free 1
                have g2 := HZ9.out.free 2
                have g3 := HZ9.out.free 3
                have HE := Lib.hid (HZ9.out.set4 (.int .i64 10) (.string ⟨#[]⟩) (.int .i64 u) (.slice (some ⟨W6.heap.size, 0, none⟩) 1 1))
                have HEB := Lib.hid (below_set4' HW9.out (Nat.le_refl _) (.int .i64 10) (.string ⟨#[]⟩) (.int .i64 u) (.slice (some ⟨W6.heap.size, 0, none⟩) 1 1))
                have HKE := Lib.hid ((HK9.out.set4 (B := w.heap.size) (fun b hb e => by omega) (.int .i64 10) (.string ⟨#[]⟩) (.int .i64 u) (.slice (some ⟨W6.heap.size, 0, none⟩) 1 1)).mono (T := fun b => w.heap.size ≤ b) (fun b hb _ => by omega))
                clear hW9 HH9
                go_wp2
                have r0 := HE.out.cell 0
                have r1 := HE.out.cell 1
                have r2 := HE.out.cell 2
                have r3 := HE.out.cell 3
                refine bodyPost_ret (v := .tuple #[.agg #[.int .i64 10, .string ⟨#[]⟩, .int .i64 u, .slice (some ⟨W6.heap.size, 0, none⟩) 1 1], .string ⟨rest.toArray⟩, .bool true]) ?_ rfl (HPS.out (oneT 10 (u : Int) a) rest _ _ _ HRS.out rfl ⟨.slice (some ⟨W6.heap.size, 0, none⟩) 1 1, rfl, HKE.out⟩ HEB.out)
                simp [set4] at r0 r1 r2 r3
                simp [results, Tryd.results49, go_sem, r0, r1, r2, r3]
              · have HRN := Lib.hid (show rt (m + 1) s = none from rt_within1 HBR.out HONE.out HWI.out (by rw [HD2.out]; exact HSP.out) (by rw [HD2.out]; show rt m (s3.drop 1) = _; rw [HS4.out]; exact hr))
                have HW5 := Lib.hid (HW4.out.trans (hb5.mono HW4.out.size))
                have HZ5 := Lib.hid (HZ4.out.below hb5)
                have HH5 := Lib.hid (HH4.out.below hb5)
                clear hr
                go_upto_region 32 with fail
                obtain ⟨W6, hW6⟩ : ∃ W6, W6 = W5.alloc (.cells #[.int .i64 ka, .string ⟨kb.toArray⟩, .int .i64 kc, .slice Aa na ca] 26) := ⟨_, rfl⟩
                have hb6 : Below W5.heap.size W5 W6 := by rw [hW6]; exact (Below.refl _ _).alloc (Nat.le_refl _) _
                have HV6 := Lib.hid (show Blk W6 W5.heap.size #[.int .i64 ka, .string ⟨kb.toArray⟩, .int .i64 kc, .slice Aa na ca] 26 by rw [hW6]; exact Blk.new _ _ _)
                rw [← hW6]
                clear hW6
                have HW6 := Lib.hid (HW5.out.trans (hb6.mono HW5.out.size))
                have HZ6 := Lib.hid (HZ5.out.below hb6)
                have HH6 := Lib.hid (HH5.out.below hb6)
                skip
                obtain ⟨W9, hW9⟩ : ∃ W9, W9 = W6.alloc (.cells #[.int .i64 ka, .string ⟨kb.toArray⟩, .int .i64 kc, .slice Aa na ca] 26) := ⟨_, rfl⟩
                have hb9 : Below W6.heap.size W6 W9 := by rw [hW9]; exact (Below.refl _ _).alloc (Nat.le_refl _) _
                have HW9 := Lib.hid (HW6.out.trans (hb9.mono HW6.out.size))
                have HZ9 := Lib.hid (HZ6.out.below hb9)
                have HH9 := Lib.hid (HH6.out.below hb9)
                skip
                have x0 := HV6.out.cell 0
                have x1 := HV6.out.cell 1
                have x2 := HV6.out.cell 2
                have x3 := HV6.out.cell 3
                rw [hW9] at HZ9 HW9
                skip
                clear hb5 hb6 hb9
                have z0 := HZ9.out.cell 0
                have z1 := HZ9.out.cell 1
                have z2 := HZ9.out.cell 2
                have z3 := HZ9.out.cell 3
                have g0 := HZ9.out.free 0
                have g1 := HZ9.out.free 1
                have g2 := HZ9.out.free 2
                have g3 := HZ9.out.free 3
                have HE := Lib.hid (HZ9.out.set4 (.int .i64 10) (.string ⟨#[]⟩) (.int .i64 u) (.slice (some ⟨W6.heap.size, 0, none⟩) 1 1))
                have HEB := Lib.hid (below_set4' HW9.out (Nat.le_refl _) (.int .i64 10) (.string ⟨#[]⟩) (.int .i64 u) (.slice (some ⟨W6.heap.size, 0, none⟩) 1 1))
                skip
                clear hW9 HH9
                go_wp2
                have r0 := HE.out.cell 0
                have r1 := HE.out.cell 1
                have r2 := HE.out.cell 2
                have r3 := HE.out.cell 3
                refine bodyPost_ret (v := .tuple #[.agg #[.int .i64 10, .string ⟨#[]⟩, .int .i64 u, .slice (some ⟨W6.heap.size, 0, none⟩) 1 1], .string ⟨rst.toArray⟩, .bool false]) ?_ rfl (HPN.out HRN.out 10 [] (u : Int) _ _ _ rst _ _ rfl HEB.out)
                simp [set4] at r0 r1 r2 r3
                simp [results, Tryd.results49, go_sem, r0, r1, r2, r3]
end Go.Proofs.YtobpacebpiabcaaDoor
