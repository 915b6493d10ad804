/- Texts Dm Dj Dn in one. -/
import Derived.Test.YtobpacebpiabcaaGreatDoorDh
import Derived.Test.YtobpacebpiabcaaGreatDoorPkDg
namespace Go.Proofs.YtobpacebpiabcaaGreatDoor
open Go.RowKit Go.Lib

set_option maxHeartbeats 3200000 in
theorem some_any {N0 : Nat} {l : List Nd} {v : Value} {w : World} (h : NodesV N0 w v l) (hN : N0 ≤ w.heap.size) (hf : NdFit l) (most : Nat) (hmost : most ≤ 100) : Calls Tryz.prog 25 #[v, .int .i64 most] w (RetTm (Abc (2 * most + 1)) w) := by
  obtain ⟨A, c, rfl, hc, hm, h4, hA⟩ := h
  obtain ⟨T, hT⟩ : ∃ T, T = min l.length most := ⟨_, rfl⟩
  have hcb : ∀ W (_ : Below w.heap.size w W), Calls Tryz.prog 67 #[.slice A T c] W (RetRight N0 (l.take most) W) := fun W hb => by
    have h := right_any 101 (l.take most) A c N0 W (Nat.le_trans hN hb.size) (by rw [List.length_take]; omega) (by rw [List.length_take]; omega) (by rw [List.length_take]; omega) hm ((hA.take most).below hN hb) (fun x hx => hf x (List.mem_of_mem_take hx))
    rw [List.length_take, show min most l.length = T by omega] at h
    exact h
  have HTL := Lib.hid (show (l.take most).length ≤ most by rw [List.length_take]; omega)
  obtain ⟨m, hmm⟩ : ∃ m, l.length = m := ⟨_, rfl⟩
  rw [hmm] at hc hT ⊢
  unfold maxLen at hm
  clear hmm hA h4 hf
  obtain ⟨W1, hW1⟩ : ∃ W1, W1 = w.alloc (.cells #[.int .i64 0, .string ⟨#[]⟩, .int .i64 0, .slice none 0 0] 26) := ⟨_, rfl⟩
  have HW := Lib.hid (show Below w.heap.size w W1 by rw [hW1]; exact (Below.refl _ _).alloc (Nat.le_refl _) _)
  have HZ := Lib.hid (show Blk W1 w.heap.size #[.int .i64 0, .string ⟨#[]⟩, .int .i64 0, .slice none 0 0] 26 by rw [hW1]; exact Blk.new _ _ _)
  by_cases h80 : most < m
  · obtain rfl : most = T := by omega
    have d1 : (most : Int) < (m : Int) := by omega
    have d2 : (most : Int) ≤ (m : Int) := by omega
    clear hT
    go_enter Tryz.func25, Tryz.ntmps25
    go_upto_region 1 with fail
    rw [← hW1]
    have HS1 := Lib.hid (show W1.heap.size = w.heap.size + 1 by rw [hW1]; simp)
    clear hW1
    go_wp2_with fail
    refine (hcb W1 HW.out).mono ?_
    rintro e W2 ⟨t, u, m2, A2, c2, rfl, hku, hpt, hct, _, _, _, _, hn⟩
    obtain ⟨A3, n3, c3, rfl, -⟩ := hku.open'
    have HKU := Lib.hid hku
    have HSM := Lib.hid (show Abc (2 * most + 1) t from ⟨hpt.1, hpt.2, by have := HTL.out; omega⟩)
    have HZ2 := Lib.hid (HZ.out.below hn)
    have HW2 := Lib.hid (HW.out.trans (hn.mono HW.out.size))
    have HSZ := Lib.hid hn.size
    generalize hk : t.1 = k at *
    generalize hnm : t.2.1 = nm at *
    generalize hn' : t.2.2.1 = n at *
    have HT := Lib.hid (And.intro hk (And.intro hnm hn'))
    clear hku hpt hct hn hk hnm hn' hcb
    go_upto_region 2 with fail
    obtain ⟨W3, hW3⟩ : ∃ W3, W3 = W2.alloc (.cells #[.int .i64 k, .string ⟨nm.toArray⟩, .int .i64 n, .slice A3 n3 c3] 26) := ⟨_, rfl⟩
    have HR3 := Lib.hid (show Below W2.heap.size W2 W3 by rw [hW3]; exact (Below.refl _ _).alloc (Nat.le_refl _) _)
    have HY := Lib.hid (show Blk W3 W2.heap.size #[.int .i64 k, .string ⟨nm.toArray⟩, .int .i64 n, .slice A3 n3 c3] 26 by rw [hW3]; exact Blk.new _ _ _)
    rw [← hW3]
    clear hW3
    have HZ3 := Lib.hid (HZ2.out.below HR3.out)
    have HW3 := Lib.hid (HW2.out.trans (HR3.out.mono HW2.out.size))
    have HK3 := Lib.hid (HKU.out.below HR3.out)
    have y0 := HY.out.cell 0
    have y1 := HY.out.cell 1
    have y2 := HY.out.cell 2
    have y3 := HY.out.cell 3
    have z0 := HZ3.out.cell 0
    have z1 := HZ3.out.cell 1
    have z2 := HZ3.out.cell 2
    have z3 := HZ3.out.cell 3
    have g0 := HZ3.out.free 0
    have g1 := HZ3.out.free 1
    have g2 := HZ3.out.free 2
    have g3 := HZ3.out.free 3
    have HE := Lib.hid (HZ3.out.set4 (.int .i64 k) (.string ⟨nm.toArray⟩) (.int .i64 n) (.slice A3 n3 c3))
    have HEB := Lib.hid (HW3.out.trans (below_set4 (N := w.heap.size) (Nat.le_refl _) (.int .i64 k) (.string ⟨nm.toArray⟩) (.int .i64 n) (.slice A3 n3 c3)))
    have hsb : ∀ b, W1.heap.size ≤ b → b ≠ w.heap.size := fun b hb e => by have := HS1.out; omega
    have HEK := Lib.hid ((HK3.out.set4 hsb (.int .i64 k) (.string ⟨nm.toArray⟩) (.int .i64 n) (.slice A3 n3 c3)).mono (T := fun b => w.heap.size ≤ b) (fun b hb _ => by have := HS1.out; omega))
    clear hsb
    go_wp2
    have r0 := HE.out.cell 0
    have r1 := HE.out.cell 1
    have r2 := HE.out.cell 2
    have r3 := HE.out.cell 3
    refine bodyPost_ret (v := .agg #[.int .i64 k, .string ⟨nm.toArray⟩, .int .i64 n, .slice A3 n3 c3]) ?_ rfl ⟨t, _, rfl, ⟨.slice A3 n3 c3, by rw [HT.out.1, HT.out.2.1, HT.out.2.2], HEK.out⟩, HSM.out, HEB.out⟩
    simp [set4] at r0 r1 r2 r3
    simp [results, Tryz.results25, go_sem, r0, r1, r2, r3]
  · obtain rfl : m = T := by omega
    have d1 : decide ((most : Int) < (m : Int)) = false := decide_eq_false (by omega)
    have d2 : (m : Int) ≤ most := by omega
    clear hT
    go_enter Tryz.func25, Tryz.ntmps25
    go_upto_region 1 with fail
    rw [← hW1]
    have HS1 := Lib.hid (show W1.heap.size = w.heap.size + 1 by rw [hW1]; simp)
    clear hW1
    go_wp2_with fail
    refine (hcb W1 HW.out).mono ?_
    rintro e W2 ⟨t, u, m2, A2, c2, rfl, hku, hpt, hct, _, _, _, _, hn⟩
    obtain ⟨A3, n3, c3, rfl, -⟩ := hku.open'
    have HKU := Lib.hid hku
    have HSM := Lib.hid (show Abc (2 * most + 1) t from ⟨hpt.1, hpt.2, by have := HTL.out; omega⟩)
    have HZ2 := Lib.hid (HZ.out.below hn)
    have HW2 := Lib.hid (HW.out.trans (hn.mono HW.out.size))
    have HSZ := Lib.hid hn.size
    generalize hk : t.1 = k at *
    generalize hnm : t.2.1 = nm at *
    generalize hn' : t.2.2.1 = n at *
    have HT := Lib.hid (And.intro hk (And.intro hnm hn'))
    clear hku hpt hct hn hk hnm hn' hcb
    go_upto_region 2 with fail
    obtain ⟨W3, hW3⟩ : ∃ W3, W3 = W2.alloc (.cells #[.int .i64 k, .string ⟨nm.toArray⟩, .int .i64 n, .slice A3 n3 c3] 26) := ⟨_, rfl⟩
    have HR3 := Lib.hid (show Below W2.heap.size W2 W3 by rw [hW3]; exact (Below.refl _ _).alloc (Nat.le_refl _) _)
    have HY := Lib.hid (show Blk W3 W2.heap.size #[.int .i64 k, .string ⟨nm.toArray⟩, .int .i64 n, .slice A3 n3 c3] 26 by rw [hW3]; exact Blk.new _ _ _)
    rw [← hW3]
    clear hW3
    have HZ3 := Lib.hid (HZ2.out.below HR3.out)
    have HW3 := Lib.hid (HW2.out.trans (HR3.out.mono HW2.out.size))
    have HK3 := Lib.hid (HKU.out.below HR3.out)
    have y0 := HY.out.cell 0
    have y1 := HY.out.cell 1
    have y2 := HY.out.cell 2
    have y3 := HY.out.cell 3
    have z0 := HZ3.out.cell 0
    have z1 := HZ3.out.cell 1
    have z2 := HZ3.out.cell 2
    have z3 := HZ3.out.cell 3
    have g0 := HZ3.out.free 0
    have g1 := HZ3.out.free 1
    have g2 := HZ3.out.free 2
    have g3 := HZ3.out.free 3
    have HE := Lib.hid (HZ3.out.set4 (.int .i64 k) (.string ⟨nm.toArray⟩) (.int .i64 n) (.slice A3 n3 c3))
    have HEB := Lib.hid (HW3.out.trans (below_set4 (N := w.heap.size) (Nat.le_refl _) (.int .i64 k) (.string ⟨nm.toArray⟩) (.int .i64 n) (.slice A3 n3 c3)))
    have hsb : ∀ b, W1.heap.size ≤ b → b ≠ w.heap.size := fun b hb e => by have := HS1.out; omega
    have HEK := Lib.hid ((HK3.out.set4 hsb (.int .i64 k) (.string ⟨nm.toArray⟩) (.int .i64 n) (.slice A3 n3 c3)).mono (T := fun b => w.heap.size ≤ b) (fun b hb _ => by have := HS1.out; omega))
    clear hsb
    go_wp2
    have r0 := HE.out.cell 0
    have r1 := HE.out.cell 1
    have r2 := HE.out.cell 2
    have r3 := HE.out.cell 3
    refine bodyPost_ret (v := .agg #[.int .i64 k, .string ⟨nm.toArray⟩, .int .i64 n, .slice A3 n3 c3]) ?_ rfl ⟨t, _, rfl, ⟨.slice A3 n3 c3, by rw [HT.out.1, HT.out.2.1, HT.out.2.2], HEK.out⟩, HSM.out, HEB.out⟩
    simp [set4] at r0 r1 r2 r3
    simp [results, Tryz.results25, go_sem, r0, r1, r2, r3]
end Go.Proofs.YtobpacebpiabcaaGreatDoor

namespace Go.Proofs.YtobpacebpiabcaaGreatDoor
open Go.RowKit Go.Lib

/-- A fresh log that history makes. -/
def RetHist (n : Nat) (w : World) (e : Ending) (w' : World) : Prop := ∃ log v, e = .returned v ∧ OwnEv w' w.heap.size v log ∧ Hist n log ∧ Below w.heap.size w w'
theorem abc_str (w : World) (t : TypeId) : StrV (w.alloc (.cells #[.string ⟨#[97]⟩, .string ⟨#[98]⟩, .string ⟨#[99]⟩] t)) (.slice (some ⟨w.heap.size, 0, none⟩) 3 3) abcN := by
  refine ⟨_, 3, rfl, Nat.le_refl _, by decide, (fun h => by cases h), .inr ⟨_, 0, rfl, (Blk.new w _ _).lt, fun j v hj => ?_⟩⟩
  rw [(Blk.new w _ _).cell]
  match j, hj with
  | 0, hj => simpa [str, abcN] using hj
  | 1, hj => simpa [str, abcN] using hj
  | 2, hj => simpa [str, abcN] using hj
  | j + 3, hj => simp [abcN] at hj
set_option maxHeartbeats 6400000 in
theorem history_any {v : Value} {x : List Ev} {w : World} (h : EvV w v x) (most : Nat) (hmost : most ≤ 200) : Calls Tryz.prog 26 #[v, .int .i64 most] w (RetHist (min x.length most) w) := by
  obtain ⟨A, c, rfl, hc, hm, h4, hA⟩ := h
  obtain ⟨m, hmm⟩ : ∃ m, x.length = m := ⟨_, rfl⟩
  have HM := Lib.hid hmm
  have HA := Lib.hid (fun k (hk : k < x.length) => hA.get hk)
  rw [hmm] at hc ⊢
  obtain ⟨n, hn⟩ : ∃ n, min m most = n := ⟨_, rfl⟩
  have HN := Lib.hid hn
  rw [hn]
  unfold maxLen at hm
  clear hmm hA h4 hn
  go_enter Tryz.func26, Tryz.ntmps26
  go_wp2
  go_loopw [5, 6, 7] (fun o dv i wr => ∃ (k : Nat) (log : List Ev), k ≤ n ∧ i = .int .i64 k ∧ dv = .int .i64 (lastDay log k) ∧ OwnEv wr w.heap.size o log ∧ Hist k log ∧ Below w.heap.size w wr) (fun _ _ i _ => n - (intOf i).toNat)
  case atStart => exact ⟨0, [], Nat.zero_le _, rfl, rfl, OwnEv.nil _ _ _ (World.ownsRow_made w #[] 0 (Nat.le_refl _) (by unfold maxLen; omega) rfl), Hist.nil, (Below.refl _ _).alloc (Nat.le_refl _) _⟩
  case round =>
    obtain ⟨k, log, hk1, rfl, rfl, hown, hh, hbw⟩ := hrel
    have HB := Lib.hid hbw
    have HO := Lib.hid hown
    have HH := Lib.hid hh
    have hll := hh.len
    have hld := hh.last k (Nat.le_refl _)
    generalize hD : lastDay log k = D at *
    have HD := Lib.hid hD
    have HLL := Lib.hid hll
    have hnm : n ≤ m ∧ n ≤ most := by have := HN.out; omega
    clear hbw hown hh hD hll
    by_cases hlt : k < n
    · have d1 : (k : Int) < (m : Int) := by omega
      have d2 : (k : Int) < (most : Int) := by omega
      obtain ⟨b, off, u, rfl, hb, hc0, hc1, hu⟩ := HA.out k (by rw [HM.out]; omega)
      replace hc0 := (HB.out.cell (p := ⟨b, off + k * 2, none⟩) hb).trans hc0
      replace hc1 := (HB.out.cell (p := ⟨b, off + k * 2 + 1, none⟩) hb).trans hc1
      obtain ⟨A2, n2, c2, rfl⟩ := hu.form
      obtain ⟨r, hr, hr15⟩ := and_le (dayAt x k) 15 (by omega)
      obtain ⟨s, hs, hs7⟩ := and_le (n2 : Int) 7 (by omega)
      generalize dayAt x k = d at *
      have hr' : bits .and .i64 d 15 = (r : Int) := hr
      have hs' : bits .and .i64 (n2 : Int) 7 = (s : Int) := hs
      have cs := fun W (hb : Below wr.heap.size wr W) (hv : StrV W (.slice (some ⟨wr.heap.size, 0, none⟩) 3 3) abcN) => set_any hv s (by omega) (by decide)
      obtain ⟨p, hp⟩ := setM_abc s (by omega)
      rw [hp] at cs
      obtain ⟨D2, hD2⟩ : ∃ D2, D + (r : Int) = D2 := ⟨_, rfl⟩
      have u1 : IntKind.i64.wrap (D + (r : Int)) = D2 := by rw [IntKind.wrap_i64]; omega
      have HD2 := Lib.hid (show D ≤ D2 ∧ D2 ≤ D + 15 by omega)
      have hbs : Below wr.heap.size wr (wr.alloc (.cells #[.string ⟨#[97]⟩, .string ⟨#[98]⟩, .string ⟨#[99]⟩] 9)) := (Below.refl _ _).alloc (Nat.le_refl _) _
      have HBS := Lib.hid hbs
      have cs2 := cs _ hbs (abc_str wr 9)
      have hc2 := (hbs.cell (p := ⟨b, off + k * 2 + 1, none⟩) (Nat.lt_of_lt_of_le hb HB.out.size)).trans hc1
      clear hu hr hs hp hD2 hbs cs
      go_wp2_with fail
      refine cs2.mono ?_
      rintro e W5 ⟨v5, rfl, ho5, hn5⟩
      obtain ⟨A3, n3, c3, rfl⟩ := ho5.strV.form
      have HB5 := Lib.hid (HBS.out.trans (hn5.mono HBS.out.size))
      have HW5 := Lib.hid (HB.out.trans (HB5.out.mono HB.out.size))
      have HNB := Lib.hid (show ∀ b, (wr.alloc (.cells #[.string ⟨#[97]⟩, .string ⟨#[98]⟩, .string ⟨#[99]⟩] 9)).heap.size ≤ b → _ ≠ some b from fun b hb e => by
        obtain ⟨us', _, h2, _⟩ := HO.out
        have := (h2.lt b e).2
        simp at hb
        omega)
      have HSN := Lib.hid ((ho5.strN HNB.out).below ((Below.refl _ _).alloc (Nat.le_refl _) (.cells #[.int .i64 D2, .slice A3 n3 c3] 38)))
      obtain ⟨us, hu1, hu2, hu3⟩ := HO.out.below HB5.out
      rw [HLL.out] at hu1 hu2
      have HU1 := Lib.hid hu1
      have HU2 := Lib.hid (hu2.alloc (.cells #[.int .i64 D2, .slice A3 n3 c3] 38))
      have HU3 := Lib.hid hu3
      have HS5 := Lib.hid HW5.out.size
      clear cs2 hn5 ho5 hc0 hc1 hc2 hu1 hu2 hu3
      go_wp2_with (at_builtin; refine wpList_app Tryz.underlying23 info_ev rfl (by omega) (by omega) _ rfl _ _ rfl w.heap.size _ k (flatE log us) rfl HU2.out W5.heap.size #[.int .i64 D2, .slice A3 n3 c3] rfl (heap_alloc_new W5 _) rfl (by simp [Value.oneCell']) (by omega) (by have := HS5.out; simp; omega) (W5.heap.size + 1) (by simp) ?_)
      intro g cap w2 hown2 hgrow hat hlt3
      have hb2 := (HW5.out.alloc HW5.out.size (.cells #[.int .i64 D2, .slice A3 n3 c3] 38)).grown hgrow (by have := HS5.out; simp; omega) (fun g hg => (HU2.out.lt g hg).1)
      have HB2 := Lib.hid hb2
      have hmore := OwnEv.more (w := W5.alloc (.cells #[.int .i64 D2, .slice A3 n3 c3] 38)) (w' := w2) (base := w.heap.size) (l := log) (g := g) (cap := cap) (d := D2) (u := .slice A3 n3 c3) us (by rw [HLL.out]; exact HU1.out) (fun q u hq => (HU3.out q u hq).below ((Below.refl _ _).alloc (Nat.le_refl _) _)) HSN.out (by rw [HLL.out]; exact hown2) hgrow (by simpa using hat)
      rw [HLL.out] at hmore
      have HMO := Lib.hid hmore
      have HH2 := Lib.hid (HH.out.snoc D2 p (by rw [HD.out]; exact HD2.out))
      have HL2 := Lib.hid (show lastDay (log ++ [(D2, abcN.filter p)]) (k + 1) = D2 by rw [lastDay_succ]; exact ((at_snoc log _ k).2 HLL.out.symm).1)
      clear hgrow hat hown2 hb2 hmore HU1 HU2 HU3 HSN HNB HO
      go_wp2
      go_roundw
      case rel => exact ⟨k + 1, _, by omega, by go_num, by rw [HL2.out], HMO.out, HH2.out, HB2.out⟩
      case measure => simp [intOf]; omega
    · obtain rfl : n = k := by omega
      by_cases hnm2 : n < m
      · have d1 : (n : Int) < (m : Int) := by omega
        have d2 : (most : Int) ≤ (n : Int) := by have := HN.out; omega
        go_wp2
        go_ret
        exact ⟨log, _, rfl, HO.out, HH.out, HB.out⟩
      · have d1 : (m : Int) ≤ (n : Int) := by omega
        go_wp2
        go_ret
        exact ⟨log, _, rfl, HO.out, HH.out, HB.out⟩
end Go.Proofs.YtobpacebpiabcaaGreatDoor

namespace Go.Proofs.YtobpacebpiabcaaGreatDoor
open Go.RowKit Go.Lib

/-- The row's own cells, and that they are free. -/
theorem OwnEv.at {w : World} {base : Nat} {v : Value} {l : List Ev} (h : OwnEv w base v l) {k : Nat} (hk : k < l.length) : ∃ g c u, v = .slice (some ⟨g, 0, none⟩) l.length c ∧ base ≤ g ∧ g < w.heap.size ∧ l.length ≤ c ∧ c ≤ maxLen ∧ w.cell? ⟨g, k * 2, none⟩ = some (.int .i64 (dayAt l k)) ∧ w.cell? ⟨g, k * 2 + 1, none⟩ = some u ∧ StrN (some g) w u (marksAt l k) ∧ w.frozen? ⟨g, k * 2, none⟩ = false ∧ w.frozen? ⟨g, k * 2 + 1, none⟩ = false := by
  obtain ⟨us, h1, h2, h3⟩ := h
  rcases h2.2 with ⟨_, g2⟩ | ⟨g, cap, cur, g1, g2, g3, g4, g5, g6, g7⟩
  · omega
  · subst g1
    obtain ⟨u, e1, e2, e3⟩ := flatE_get l us k h1 hk
    have hl := flatE_len l us h1
    have c0 := World.ownsRow.cellAt h2 (k * 2) (by omega)
    have c1 := World.ownsRow.cellAt h2 (k * 2 + 1) (by omega)
    exact ⟨g, cap, u, rfl, g2, (Array.getElem?_eq_some_iff.1 g3).1, g4, g5, c0.trans e2, c1.trans e3, h3 k u e1, World.ownsRow.frozenAt h2 _, World.ownsRow.frozenAt h2 _⟩

theorem OwnEv.free {w : World} {base g n c : Nat} {l : List Ev} (h : OwnEv w base (.slice (some ⟨g, 0, none⟩) n c) l) {k : Nat} (hk : k < l.length) : w.frozen? ⟨g, k * 2, none⟩ = false ∧ w.frozen? ⟨g, k * 2 + 1, none⟩ = false := by
  obtain ⟨g', c', u, e, _, _, _, _, _, _, _, f0, f1⟩ := h.at hk
  injection e with e1
  injection e1 with e1
  injection e1 with e1
  subst e1
  exact ⟨f0, f1⟩
/-- A block of four cells. -/
def Four (w : World) (B : Nat) (a b c d : Value) (t : TypeId) : Prop := Blk w B #[a, b, c, d] t
section
variable {w : World} {B : Nat} {a b c d : Value} {t : TypeId}
theorem Four.free (h : Four w B a b c d t) (k : Nat) : w.frozen? ⟨B, k, none⟩ = false := Blk.free h k
theorem Four.lt (h : Four w B a b c d t) : B < w.heap.size := Blk.lt h
theorem Four.below {w' : World} {C : Nat} (h : Four w B a b c d t) (hf : Below C w w') (hB : B < C) : Four w' B a b c d t := (hf.block B hB).trans h
end
theorem Four.setOther {w : World} {B : Nat} {a b c d : Value} {t : TypeId} (h : Four w B a b c d t) (p : Addr) (x : Value) (hp : B ≠ p.block) : Four (w.setCell p x) B a b c d t := Blk.setOther h p x hp
theorem Four.set4 {w : World} {B : Nat} {a b c d : Value} {t : TypeId} (h : Four w B a b c d t) (a' b' c' d' : Value) : Four (Go.Proofs.YtobpacebpiabcaaGreatDoor.set4 w B a' b' c' d') B a' b' c' d' t := Blk.set4 h a' b' c' d'
/-- A term over t, in blocks of t's and the call's own. -/
def RetOne (P : Nat → Prop) (t : Tm) (w : World) (e : Ending) (w' : World) : Prop := ∃ v, e = .returned v ∧ TmV (fun b => P b ∨ w.heap.size ≤ b) w' v t ∧ Below w.heap.size w w'
set_option maxHeartbeats 3200000 in
theorem tone_any {S : Nat → Prop} {w : World} {v : Value} {t : Tm} (k : Int) (h : TmV S w v t) : Calls Tryz.prog 38 #[.int .i64 k, v] w (RetOne S (oneT k 0 t) w) := by
  obtain ⟨u, rfl, hu⟩ := h
  obtain ⟨A, m, c, rfl, -⟩ := hu.open'
  have HU := Lib.hid hu
  have HO := Lib.hid (show oneT k 0 t = (k, [], 0, .cons t.1 t.2.1 t.2.2.1 t.2.2.2 .nil) from rfl)
  obtain ⟨W1, hW1⟩ : ∃ W1, W1 = w.alloc (.cells #[.int .i64 t.1, .string ⟨t.2.1.toArray⟩, .int .i64 t.2.2.1, .slice A m c] 26) := ⟨_, rfl⟩
  have hb1 : Below w.heap.size w W1 := by rw [hW1]; exact (Below.refl _ _).alloc (Nat.le_refl _) _
  have hX1 : Blk W1 w.heap.size #[.int .i64 t.1, .string ⟨t.2.1.toArray⟩, .int .i64 t.2.2.1, .slice A m c] 26 := by rw [hW1]; exact Blk.new _ _ _
  obtain ⟨W2, hW2⟩ : ∃ W2, W2 = W1.alloc (.cells #[.int .i64 0, .string ⟨#[]⟩, .int .i64 0, .slice none 0 0] 26) := ⟨_, rfl⟩
  have hb2 : Below W1.heap.size W1 W2 := by rw [hW2]; exact (Below.refl _ _).alloc (Nat.le_refl _) _
  obtain ⟨R, hRR⟩ : ∃ R, w.heap.size + 1 = R := ⟨_, rfl⟩
  have hR : W1.heap.size = R := by rw [hW1, ← hRR]; simp
  have HZ2 := Lib.hid (show Blk W2 R #[.int .i64 0, .string ⟨#[]⟩, .int .i64 0, .slice none 0 0] 26 by rw [← hR, hW2]; exact Blk.new _ _ _)
  have HX2 := Lib.hid (hX1.below hb2)
  have HB2 := Lib.hid (hb1.trans (hb2.mono hb1.size))
  have HRW := Lib.hid (show w.heap.size < R by rw [← hR]; exact hX1.lt)
  have HRR := Lib.hid hRR
  clear hb1 hX1 hb2 hu hR hRR
  go_enter Tryz.func38, Tryz.ntmps38
  go_upto_region 1 with fail
  rw [← hW1, ← hW2, HRR.out]
  clear hW1 hW2
  have x0 := HX2.out.cell 0
  have x1 := HX2.out.cell 1
  have x2 := HX2.out.cell 2
  have x3 := HX2.out.cell 3
  have hb3 : Below W2.heap.size W2 (W2.alloc (.cells #[.int .i64 t.1, .string ⟨t.2.1.toArray⟩, .int .i64 t.2.2.1, .slice A m c] 26)) := (Below.refl _ _).alloc (Nat.le_refl _) _
  have hz3 := HZ2.out.below hb3
  have z0 := hz3.cell 0
  have z1 := hz3.cell 1
  have z2 := hz3.cell 2
  have z3 := hz3.cell 3
  have g0 := hz3.free 0
  have g1 := hz3.free 1
  have g2 := hz3.free 2
  have g3 := hz3.free 3
  have HE := Lib.hid (hz3.set4 (.int .i64 k) (.string ⟨#[]⟩) (.int .i64 0) (.slice (some ⟨W2.heap.size, 0, none⟩) 1 1))
  have HB3 := Lib.hid (HB2.out.trans (hb3.mono HB2.out.size))
  have HEB := Lib.hid (HB3.out.trans (below_set4 (N := w.heap.size) (Nat.le_of_lt HRW.out) (.int .i64 k) (.string ⟨#[]⟩) (.int .i64 0) (.slice (some ⟨W2.heap.size, 0, none⟩) 1 1)))
  have HK := Lib.hid (show KidsV (fun b => S b ∨ w.heap.size ≤ b) (set4 (W2.alloc (.cells #[.int .i64 t.1, .string ⟨t.2.1.toArray⟩, .int .i64 t.2.2.1, .slice A m c] 26)) R (.int .i64 k) (.string ⟨#[]⟩) (.int .i64 0) (.slice (some ⟨W2.heap.size, 0, none⟩) 1 1)) (.slice (some ⟨W2.heap.size, 0, none⟩) 1 1) (.cons t.1 t.2.1 t.2.2.1 t.2.2.2 .nil) by
    have hn : Blk (set4 (W2.alloc (.cells #[.int .i64 t.1, .string ⟨t.2.1.toArray⟩, .int .i64 t.2.2.1, .slice A m c] 26)) R (.int .i64 k) (.string ⟨#[]⟩) (.int .i64 0) (.slice (some ⟨W2.heap.size, 0, none⟩) 1 1)) W2.heap.size #[.int .i64 t.1, .string ⟨t.2.1.toArray⟩, .int .i64 t.2.2.1, .slice A m c] 26 := by
      have hr : W2.heap.size ≠ R := by have := HZ2.out.lt; omega
      unfold set4
      exact (((((Blk.new W2 _ _).setOther _ _ hr).setOther _ _ hr).setOther _ _ hr).setOther _ _ hr)
    have hu2 := HU.out.keep (w' := set4 (W2.alloc (.cells #[.int .i64 t.1, .string ⟨t.2.1.toArray⟩, .int .i64 t.2.2.1, .slice A m c] 26)) R (.int .i64 k) (.string ⟨#[]⟩) (.int .i64 0) (.slice (some ⟨W2.heap.size, 0, none⟩) 1 1)) (T := fun b => S b ∨ w.heap.size ≤ b) HEB.out.size (fun b hs hl => ⟨HEB.out.block b hl, .inl hs⟩)
    obtain ⟨A', c', e1, e2, e3, e4, e5⟩ := hu2
    injection e1 with e11 e12 e13
    subst e11 e13
    refine ⟨_, 1, rfl, Nat.le_refl _, by decide, (fun h => by cases h), ?_⟩
    refine ⟨W2.heap.size, 0, rfl, .inr HB2.out.size, hn.lt, hn.cell 0, hn.cell 1, hn.cell 2, ⟨A, c, ?_, e2, e3, e4, e5⟩, trivial⟩
    rw [← e12]; exact hn.cell 3)
  clear hb3 hz3
  go_wp2
  have r0 := HE.out.cell 0
  have r1 := HE.out.cell 1
  have r2 := HE.out.cell 2
  have r3 := HE.out.cell 3
  refine bodyPost_ret (v := .agg #[.int .i64 k, .string ⟨#[]⟩, .int .i64 0, .slice (some ⟨W2.heap.size, 0, none⟩) 1 1]) ?_ rfl ⟨_, rfl, ⟨_, rfl, HK.out⟩, HEB.out⟩
  simp [set4] at r0 r1 r2 r3
  simp [results, Tryz.results38, go_sem, r0, r1, r2, r3]
end Go.Proofs.YtobpacebpiabcaaGreatDoor
