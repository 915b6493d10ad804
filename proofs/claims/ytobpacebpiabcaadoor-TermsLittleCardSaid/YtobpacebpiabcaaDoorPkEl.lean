/- Texts El En Ek in one. -/
import Derived.Test.YtobpacebpiabcaaDoorPkEh
import Derived.Test.YtobpacebpiabcaaDoorPkDfb
import Derived.Test.YtobpacebpiabcaaDoorPkDg
import Derived.Test.YtobpacebpiabcaaDoorPkDm
import Derived.Test.YtobpacebpiabcaaDoorCk
import Derived.Test.YtobpacebpiabcaaDoorBl
namespace Go.Proofs.YtobpacebpiabcaaDoor
open Go.RowKit Go.Lib

end Go.Proofs.YtobpacebpiabcaaDoor

namespace Go.Proofs.YtobpacebpiabcaaDoor
open Go.RowKit Go.Lib

theorem daysOk_snoc {log : List Ev} (h : DaysOk log) {d : Int} (ms : List (List UInt8)) (h0 : 0 ≤ d) (h1 : d ≤ 1000000) : DaysOk (log ++ [(d, ms)]) := fun i => by
  rcases Nat.lt_trichotomy i log.length with hi | hi | hi
  · rw [((at_snoc log (d, ms) i).1 hi).1]; exact h i
  · rw [((at_snoc log (d, ms) i).2 hi).1]; exact ⟨h0, h1⟩
  · unfold dayAt
    rw [List.getD_eq_getElem?_getD, List.getElem?_eq_none (by simp; omega)]
    simp
theorem daysOk_nil : DaysOk [] := fun i => by simp [dayAt]
theorem keepN_le (t : Tm) : t.keepN ≤ t.fo.cnt := keepF_cnt t.fo
theorem RetNew.yes {t : Tm} {w w' : World} {e : Ending} (h : RetNew t w e w') (ho : t.ok = true) : ∃ P p B, e = .returned (.tuple #[.pointer (some ⟨P, 0, none⟩), .int .i64 0]) ∧ Blk w' P #[p, .int .i64 0] 64 ∧ PartM w' [] t p B ∧ (∀ x ∈ B, w.heap.size ≤ x ∧ x ≠ P) ∧ w.heap.size ≤ P ∧ Below w.heap.size w w' := by
  rcases h with ⟨_, h⟩ | ⟨h, _⟩
  · exact h
  · rw [ho] at h; cases h
theorem RetNew.no {t : Tm} {w w' : World} {e : Ending} (h : RetNew t w e w') (ho : t.ok = false) : e = .returned (.tuple #[.pointer none, .int .i64 1]) ∧ Below w.heap.size w w' := by
  rcases h with ⟨h, _⟩ | ⟨_, h⟩
  · rw [ho] at h; cases h
  · exact h
/-- A row of events of the call's own; their marks lie in blocks of the world W0. -/
def OwnEvI (W0 w : World) (base : Nat) (v : Value) (l : List Ev) : Prop :=
  ∃ us, us.length = l.length ∧ w.ownsRow base 38 2 v l.length (flatE l us) ∧ ∀ k u, us[k]? = some u → StrV W0 u (marksAt l k)
theorem StrV.strN {W0 w : World} {u : Value} {l : List (List UInt8)} (h : StrV W0 u l) (hb : Below W0.heap.size W0 w) {nb : Option Nat} (hn : ∀ b, nb = some b → W0.heap.size ≤ b) : StrN nb w u l := by
  obtain ⟨A, c, h1, h2, h3, h4, h5⟩ := h
  refine ⟨A, c, h1, h2, h3, h4, ?_⟩
  rcases h5 with h5 | ⟨b, off, hA, hlt, hc⟩
  · exact .inl (List.map_eq_nil_iff.1 h5)
  · exact .inr ⟨b, off, hA, fun e => by have := hn b e; omega, Nat.lt_of_lt_of_le hlt hb.size, fun j v hj => (hb.cell (p := ⟨b, off + j, none⟩) hlt).trans (hc j v hj)⟩
theorem OwnEvI.evV {W0 w : World} {base : Nat} {v : Value} {l : List Ev} (h : OwnEvI W0 w base v l) (hb : Below W0.heap.size W0 w) (hlo : W0.heap.size ≤ base) : EvV w v l := by
  obtain ⟨us, h1, h2, h3⟩ := h
  exact OwnEv.evV ⟨us, h1, h2, fun k u hk => (h3 k u hk).strN hb (fun b e => Nat.le_trans hlo (h2.lt b e).1)⟩
theorem OwnEvI.keep {W0 w w' : World} {base : Nat} {v : Value} {l : List Ev} (h : OwnEvI W0 w base v l) (hk : ∀ b, v.ownBlock = some b → b < w.heap.size → w'.heap[b]? = w.heap[b]?) : OwnEvI W0 w' base v l := by
  obtain ⟨us, h1, h2, h3⟩ := h
  exact ⟨us, h1, row_below h2 hk, h3⟩
theorem OwnEvI.below {W0 w w' : World} {base : Nat} {v : Value} {l : List Ev} (h : OwnEvI W0 w base v l) (hb : Below w.heap.size w w') : OwnEvI W0 w' base v l := h.keep (fun b _ hl => hb.block b hl)
theorem OwnEvI.fr {W0 w w' : World} {base : Nat} {v : Value} {l : List Ev} {S : List Nat} (h : OwnEvI W0 w base v l) (hf : Fr S w w') (hS : ∀ x ∈ S, x < base) : OwnEvI W0 w' base v l := by
  obtain ⟨us, h1, h2, h3⟩ := h
  exact OwnEvI.keep ⟨us, h1, h2, h3⟩ (fun b e hl => hf.block b hl (fun hm => by have h4 := (h2.lt b e).1; have := hS b hm; omega))
theorem OwnEvI.nil (W0 w : World) (base : Nat) (v : Value) (h : w.ownsRow base 38 2 v 0 []) : OwnEvI W0 w base v [] := ⟨[], rfl, h, fun k u hk => by simp at hk⟩
theorem OwnEvI.form {W0 w : World} {base : Nat} {v : Value} {l : List Ev} (h : OwnEvI W0 w base v l) : ∃ A c, v = .slice A l.length c := by
  obtain ⟨us, h1, h2, h3⟩ := h
  rcases h2.2 with ⟨g1, g2⟩ | ⟨g, cap, cur, g1, _⟩
  · exact ⟨none, 0, by rw [g2]; exact g1⟩
  · exact ⟨_, cap, g1⟩
theorem OwnEvI.more {W0 w' : World} {base : Nat} {l : List Ev} {g cap : Nat} {d : Int} {u : Value} {ms : List (List UInt8)} (us : List Value) (h1 : us.length = l.length) (h3 : ∀ k u, us[k]? = some u → StrV W0 u (marksAt l k)) (hu : StrV W0 u ms)
    (hown : w'.ownsRow base 38 2 (.slice (some ⟨g, 0, none⟩) (l.length + 1) cap) (l.length + 1) (flatE l us ++ #[.int .i64 d, u].toList)) : OwnEvI W0 w' base (.slice (some ⟨g, 0, none⟩) (l.length + 1) cap) (l ++ [(d, ms)]) := by
  refine ⟨us ++ [u], by simp [h1], ?_, fun k y hk => ?_⟩
  · rw [flatE_app l us (d, ms) u h1]
    simpa using hown
  · rcases Nat.lt_or_ge k us.length with hlt | hge
    · rw [List.getElem?_append_left hlt] at hk
      rw [((at_snoc l (d, ms) k).1 (by omega)).2]
      exact h3 k y hk
    · rw [List.getElem?_append_right hge] at hk
      have hk0 : k - us.length = 0 := by
        rcases Nat.eq_zero_or_pos (k - us.length) with h | h
        · exact h
        · rw [List.getElem?_eq_none (by simp; omega)] at hk; cases hk
      rw [hk0] at hk
      have : u = y := by simpa using hk
      subst this
      rw [((at_snoc l (d, ms) k).2 (by omega)).2]
      exact hu

/-! Logs all of whose events are valid, however many. -/
end Go.Proofs.YtobpacebpiabcaaDoor

namespace Go.Proofs.YtobpacebpiabcaaDoor
open Go.RowKit Go.Lib

set_option maxRecDepth 100000 in
set_option maxHeartbeats 12800000 in
theorem little_any {B0 N0 : Nat} {l : List Nd} {x : List Ev} {u v : Value} {w : World} (hu : NodesV N0 w u l) (hN : N0 ≤ w.heap.size) (hf : NdFit l) (hv : EvV w v x) (hL : LibOk B0 w) : Calls Tryd.prog 9 #[u, v] w (RetW (.bool true) w) := by
  have HS := Lib.hid (show Calls Tryd.prog 10 #[u, .int .i64 20] w (RetTm (Abc 41) w) from some_any hu hN hf 20 (by omega))
  have HH := Lib.hid (show ∀ W, Below w.heap.size w W → Calls Tryd.prog 11 #[v, .int .i64 200] W (RetHist (min x.length 200) W) from fun W hb => history_any (hv.below hb) 200 (by omega))
  have HL := Lib.hid (show ∀ W, Below w.heap.size w W → Calls Tryd.prog 13 #[] W (RetW (.bool true) W) from fun W hb => lives_any B0 W (hL.below hb))
  obtain ⟨A1, m1, c1, rfl⟩ : ∃ A m c, u = .slice A m c := by obtain ⟨A, c, h, _⟩ := hu; exact ⟨A, _, c, h⟩
  obtain ⟨A2, m2, c2, rfl⟩ : ∃ A m c, v = .slice A m c := by obtain ⟨A, c, h, _⟩ := hv; exact ⟨A, _, c, h⟩
  obtain ⟨n, hn⟩ : ∃ n, min x.length 200 = n := ⟨_, rfl⟩
  rw [hn] at HH
  have hn200 : n ≤ 200 := by omega
  clear hu hN hf hv hL hn
  go_enter Tryd.func9, Tryd.ntmps9
  have cs := HS.out
  go_wp2_with fail
  refine cs.mono ?_
  rintro e W4 ⟨t, v4, rfl, htm, hab, hb4⟩
  have HB4 := Lib.hid hb4
  have HT := Lib.hid htm
  have HAB := Lib.hid hab
  obtain ⟨u4, rfl, hk4⟩ := htm
  obtain ⟨A3, m3, c3, rfl, -⟩ := hk4.open'
  have ch := HH.out W4 HB4.out
  clear cs hab hb4 hk4 HS HH
  go_wp2_with fail
  refine ch.mono ?_
  rintro e W5 ⟨log, v5, rfl, hown, hh, hb5⟩
  have HHI := Lib.hid hh
  have HE := Lib.hid hown.evV
  obtain ⟨A5, m5, c5, rfl, hm5⟩ : ∃ A m c, v5 = .slice A m c ∧ m = n := by obtain ⟨A, c, h, _⟩ := HE.out; exact ⟨A, _, c, h, hh.len⟩
  subst hm5
  have HW5 := Lib.hid (HB4.out.trans (hb5.mono HB4.out.size))
  have HT5 := Lib.hid (HT.out.below hb5)
  clear ch hown hb5 hh
  go_upto_region 2 with fail
  obtain ⟨W6, hW6⟩ : ∃ W6, W6 = W5.alloc (.cells #[.int .i64 t.1, .string ⟨t.2.1.toArray⟩, .int .i64 t.2.2.1, .slice A3 m3 c3] 26) := ⟨_, rfl⟩
  have hb6 : Below W5.heap.size W5 W6 := by rw [hW6]; exact (Below.refl _ _).alloc (Nat.le_refl _) _
  have HX6 := Lib.hid (show Blk W6 W5.heap.size #[.int .i64 t.1, .string ⟨t.2.1.toArray⟩, .int .i64 t.2.2.1, .slice A3 m3 c3] 26 by rw [hW6]; exact Blk.new _ _ _)
  rw [← hW6]
  clear hW6
  have HW6 := Lib.hid (HW5.out.trans (hb6.mono HW5.out.size))
  have HT6 := Lib.hid (HT5.out.below hb6)
  have HE6 := Lib.hid (HE.out.below hb6)
  have HOK := Lib.hid (HAB.out.ok (by omega))
  have cn := new_any HT6.out HAB.out.fit
  have HCN := Lib.hid (show t.2.2.2.cnt ≤ 1000 from by have h := HAB.out.2.2; rw [tm_cnt] at h; omega)
  have HKP := Lib.hid (show t.keepN ≤ t.fo.cnt ∧ t.fo.cnt ≤ 41 from ⟨keepN_le t, HAB.out.2.2⟩)
  have HTN := Lib.hid (show ∀ W, Below W6.heap.size W6 W → Calls Tryd.prog 35 #[.agg #[.int .i64 t.1, .string ⟨t.2.1.toArray⟩, .int .i64 t.2.2.1, .slice A3 m3 c3], .int .i64 64] W (RetNodes t.fo.cnt 64 W) from fun W hb => refnodes_any _ t _ _ W 64 (Nat.lt_succ_self _) (by have := HCN.out; omega) (HT6.out.below hb) (by omega) (by omega))
  clear hb6 HE HT HT5 HW5 HB4
  generalize hkk : t.1 = kk at *
  generalize hknm : t.2.1 = knm at *
  generalize hkn : t.2.2.1 = kn at *
  clear hkk hknm hkn
  have k0 := HX6.out.cell 0
  have k1 := HX6.out.cell 1
  have k2 := HX6.out.cell 2
  have k3 := HX6.out.cell 3
  go_wp2_with fail
  refine cn.mono ?_
  rintro e W7 hr
  obtain ⟨P, pv, B, rfl, hbk7, hpm7, hBB, hPB, hb7⟩ := hr.yes HOK.out
  have HBB := Lib.hid hBB
  have HPB := Lib.hid hPB
  have HNB := Lib.hid (show P ∉ B from fun h => (hBB P h).2 rfl)
  have HGE := Lib.hid (show ∀ k ∈ P :: B, W6.heap.size ≤ k from fun k hk => by
    rcases List.mem_cons.1 hk with rfl | hk
    · exact hPB
    · exact (hBB k hk).1)
  have HM7 := Lib.hid hbk7
  have HP7 := Lib.hid hpm7
  have HB7 := Lib.hid hb7
  have cl := HL.out W7 (HW6.out.trans (hb7.mono HW6.out.size))
  clear cn hr hbk7 hpm7 hBB hPB hb7 k0 k1 k2 k3
  go_wp2_with fail
  refine cl.mono ?_
  rintro e W8 ⟨rfl, hb8⟩
  have HB8 := Lib.hid (HB7.out.trans (hb8.mono HB7.out.size))
  have HM8 := Lib.hid (HM7.out.below hb8)
  have HP8 := Lib.hid (HP7.out.later hb8)
  clear cl hb8 HM7 HP7 HB7 HL
  have ck := kept_mon HM8.out HP8.out HCN.out
  go_wp2_with fail
  refine ck.mono ?_
  rintro e w' ⟨rfl, rfl⟩
  clear ck
  obtain ⟨q, hq⟩ : ∃ q, t.keepN + 1 = q := ⟨_, rfl⟩
  have HQ := Lib.hid hq
  rw [hq]
  have HCK := Lib.hid (show ∀ W seen d, Blk W P #[pv, .int .i64 d] 64 → PartM W seen t pv B → Calls Tryd.prog 32 #[.pointer (some ⟨P, 0, none⟩)] W (RetV (.int .i64 (q : Int)) W) from fun W seen d h1 h2 => by rw [← hq]; exact kept_mon h1 h2 HCN.out)
  clear hq
  go_wp2
  go_loopw [10] (fun s wr => ∃ (r : Nat) (seen : List Ev) (d : Int), r ≤ 3 ∧ s = .int .i64 r ∧ seen.length ≤ 200 * r ∧ DaysOk seen ∧ PartM wr seen t pv B ∧ Blk wr P #[pv, .int .i64 d] 64 ∧ 0 ≤ d ∧ d ≤ 4000 * r ∧ Below W6.heap.size W6 wr) (fun s _ => 3 - (intOf s).toNat)
  case atStart => exact ⟨0, [], 0, by omega, rfl, by simp, daysOk_nil, HP8.out, HM8.out, by omega, by omega, HB8.out⟩
  case round =>
    clear HM8 HP8 HB8
    obtain ⟨r, seen0, d0, hr3, rfl, hsl0, hdo0, hpm0, hbk0, hd00, hd04, hbw0⟩ := hrel
    have HD0 := Lib.hid (And.intro hsl0 (And.intro hdo0 (And.intro hd00 hd04)))
    have HP0 := Lib.hid hpm0
    have HM0 := Lib.hid hbk0
    have HB0 := Lib.hid hbw0
    clear hsl0 hdo0 hd00 hd04 hpm0 hbk0 hbw0
    by_cases hlt3 : r < 3
    · have hi1 : (r : Int) < 3 := by omega
      have hi0 : (0 : Int) ≤ (r : Int) := by omega
      obtain ⟨s4, hs4⟩ : ∃ s4, (r : Int) * 4000 = s4 := ⟨_, rfl⟩
      have hs40 : 0 ≤ s4 ∧ s4 ≤ 8000 ∧ s4 = 4000 * (r : Int) := by omega
      have HS4 := Lib.hid hs40
      have us : IntKind.i64.wrap ((r : Int) * 4000) = s4 := by rw [IntKind.wrap_i64]; omega
      clear hs40 hs4
      go_wp2
      go_loopw [11] (fun i wr2 => ∃ (k : Nat) (seen : List Ev) (d : Int), k ≤ m5 ∧ i = .int .i64 k ∧ seen.length ≤ 200 * r + k ∧ DaysOk seen ∧ PartM wr2 seen t pv B ∧ Blk wr2 P #[pv, .int .i64 d] 64 ∧ 0 ≤ d ∧ d ≤ s4 + lastDay log k ∧ Below W6.heap.size W6 wr2) (fun i _ => m5 - (intOf i).toNat)
      case atStart => exact ⟨0, seen0, d0, Nat.zero_le _, rfl, HD0.out.1, HD0.out.2.1, HP0.out, HM0.out, HD0.out.2.2.1, by have h1 := HD0.out.2.2.2; have h2 := HS4.out; simp only [lastDay, if_pos]; omega, HB0.out⟩
      case round =>
        clear HP0 HM0 HB0 HD0
        obtain ⟨k, seen, d, hkn, rfl, hsl, hdo, hpm, hbk, hd0, hd4, hbw⟩ := hrel
        have HDO := Lib.hid hdo
        have HSL := Lib.hid hsl
        have HDD := Lib.hid (And.intro hd0 hd4)
        have HPM := Lib.hid hpm
        have HBK := Lib.hid hbk
        have HB := Lib.hid hbw
        clear hsl hdo hpm hbk hd0 hd4 hbw
        by_cases hlt : k < m5
        · have hkl : k < log.length := by rw [HHI.out.len]; exact hlt
          obtain ⟨A', c', hv5, hc1, hc2, -, hea⟩ := HE6.out
          injection hv5 with h1 h2 h3
          clear h2
          subst h1 h3
          obtain ⟨b, off, uu, rfl, hb, hc0, hcu, hsv⟩ := hea.get hkl
          rw [HHI.out.len] at hc1
          unfold maxLen at hc2
          obtain ⟨An, nn, cn, rfl⟩ := hsv.form
          have hc0' := (HB.out.cell (p := ⟨b, off + k * 2, none⟩) hb).trans hc0
          have hcu' := (HB.out.cell (p := ⟨b, off + k * 2 + 1, none⟩) hb).trans hcu
          have hdk := HHI.out.days k hlt
          have hdl := HHI.out.day k hlt
          have hfit := (HHI.out.fit (by omega)).get k
          have HNA := Lib.hid (show namesB (marksAt log k) 8 = true by obtain ⟨p, hp⟩ := HHI.out.marks k hlt; rw [hp]; exact (abc_filter p).1)
          have HSV := Lib.hid hsv
          generalize hdd : dayAt log k = dk at *
          obtain ⟨d2, hd2⟩ : ∃ d2, dk + s4 = d2 := ⟨_, rfl⟩
          have hs40 := HS4.out
          have u1 : IntKind.i64.wrap (dk + s4) = d2 := by rw [IntKind.wrap_i64]; omega
          have HLS := Lib.hid (show lastDay log (k + 1) = dk by rw [lastDay_succ]; exact hdd)
          have HD2 := Lib.hid (show 0 ≤ d2 ∧ d2 ≤ 1000000 ∧ d ≤ d2 ∧ d2 = s4 + dk from by have h := HDD.out; omega)
          have HLE := Lib.hid hfit.2
          have hki : (k : Int) < (m5 : Int) := by omega
          have hki0 : (0 : Int) ≤ (k : Int) := by omega
          clear hc0 hcu hsv hdd hd2 hfit hs40 hea hdk hdl
          obtain ⟨W12, hW12⟩ : ∃ W12, W12 = wr.alloc (.cells #[.int .i64 dk, .slice An nn cn] 38) := ⟨_, rfl⟩
          have hv12 : Blk W12 wr.heap.size #[.int .i64 dk, .slice An nn cn] 38 := by rw [hW12]; exact Blk.new _ _ _
          have hb12 : Below wr.heap.size wr W12 := by rw [hW12]; exact (Below.refl _ _).alloc (Nat.le_refl _) _
          obtain ⟨W13, hW13⟩ : ∃ W13, W13 = W12.setCell ⟨wr.heap.size, 0, none⟩ (.int .i64 d2) := ⟨_, rfl⟩
          have HV13 := Lib.hid (show Blk W13 wr.heap.size #[.int .i64 d2, .slice An nn cn] 38 by rw [hW13]; exact hv12.set 0 _)
          have HB13 := Lib.hid (show Below wr.heap.size wr W13 by rw [hW13]; exact hb12.setCell (p := ⟨wr.heap.size, 0, none⟩) (Nat.le_refl _) _)
          have HV12 := Lib.hid hv12
          clear hv12 hb12
          go_upto_region 13 with fail
          rw [← hW12]
          clear hW12 hc0' hcu'
          have v0 := HV12.out.cell 0
          have f0 := HV12.out.free 0
          go_upto_region 14 with fail
          rw [← hW13]
          clear hW13 v0 f0 HV12
          have HB3 := Lib.hid (HB.out.trans (HB13.out.mono HB.out.size))
          have cst := step_mon (HBK.out.below HB13.out) (HPM.out.later HB13.out) HNB.out HAB.out.1 (StrV.strX HSV.out HB3.out HGE.out) HLE.out HNA.out HD2.out.2.2.1 HD2.out.1 HD2.out.2.1 HDO.out (Nat.le_trans HSL.out (by omega))
          have v0 := HV13.out.cell 0
          have v1 := HV13.out.cell 1
          obtain ⟨sp, hsp⟩ : ∃ sp : Bool × Unit, t.says (seen ++ [(d2, marksAt log k)]) seen.length = sp.1 := ⟨(_, ()), rfl⟩
          unfold RetStepM at cst
          rw [hsp] at cst
          clear hsp
          go_wp2_with fail
          refine cst.mono ?_
          rintro e W14 ⟨rfl, hpm14, hbk14, hfr14⟩
          have HPM4 := Lib.hid hpm14
          have HBK4 := Lib.hid hbk14
          have HB4 := Lib.hid (HB3.out.trans (hfr14.belowOf HB3.out.size HGE.out))
          have ck := HCK.out W14 _ _ hbk14 hpm14
          clear cst hpm14 hbk14 hfr14 v0 v1
          go_wp2_with fail
          refine ck.mono ?_
          rintro e w' ⟨rfl, rfl⟩
          clear ck
          go_wp2
          go_roundw
          case rel => exact ⟨k + 1, seen ++ [(d2, marksAt log k)], d2, by omega, by go_num, by have := HSL.out; simp; omega, daysOk_snoc HDO.out _ HD2.out.1 HD2.out.2.1, HPM4.out, HBK4.out, HD2.out.1, by rw [HLS.out]; have := HD2.out.2.2.2; omega, HB4.out⟩
          case measure => simp [intOf]; omega
        · obtain rfl : m5 = k := by omega
          go_wp2
          go_roundw
          case rel => exact ⟨r + 1, seen, d, by omega, by go_num, by have := HSL.out; omega, HDO.out, HPM.out, HBK.out, HDD.out.1, by have h1 := HDD.out.2; have h2 := HS4.out; have h3 := (HHI.out.last m5 (Nat.le_refl _)).2; omega, HB.out⟩
          case measure => simp [intOf]; omega
    · obtain rfl : r = 3 := by omega
      have HX := Lib.hid (HX6.out.below HB0.out)
      have k0 := HX.out.cell 0
      have k1 := HX.out.cell 1
      have k2 := HX.out.cell 2
      have k3 := HX.out.cell 3
      have cr := HTN.out wr HB0.out
      have q0 : (0 : Int) ≤ (q : Int) := by omega
      go_wp2_with fail
      refine cr.mono ?_
      rintro e W20 ⟨r0, rfl, hr1, hrc, hre, -, hb20⟩
      have HF := Lib.hid (HW6.out.trans ((HB0.out.trans (hb20.mono HB0.out.size)).mono HW6.out.size))
      have hrr : r0 = (t.fo.cnt : Int) := by have := HKP.out.2; exact hre (by omega)
      have hwr : IntKind.i64.wrap (r0 + 1) = r0 + 1 := by rw [IntKind.wrap_i64]; have := HKP.out.2; omega
      have hqr : (q : Int) ≤ r0 + 1 := by have h1 := HQ.out; have h2 := HKP.out; omega
      clear cr hr1 hrc hre hb20 hrr k0 k1 k2 k3
      go_wp2
      go_ret
      exact ⟨rfl, HF.out⟩
end Go.Proofs.YtobpacebpiabcaaDoor
