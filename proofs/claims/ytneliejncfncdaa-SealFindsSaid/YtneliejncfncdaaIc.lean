/- The reference's Wet. -/
import Derived.Test.YtneliejncfncdaaIb
import Derived.StillTailTactics
namespace Go.Proofs.Ytneliejncfncdaa
open Go.RowKit

set_option maxRecDepth 100000 in
set_option maxHeartbeats 1600000 in
theorem refWet_any (q I : Int) (t n m N : Nat) (A : Option Addr) (c : Nat) (l : List Int) (w : World) (hq : 2 ≤ q ∧ q ≤ 31) (ht : t ≤ 31) (hn : 1 ≤ n ∧ n ≤ 31) (hN : n * q.toNat = N)
    (hI1 : I ≤ 1000000) (hA : Ints w A l) (hm : l.length = m) (hb : m ≤ 1000000) (hr : rsB I (-1) l = true) :
    Calls Try.prog 51 #[pools q t n, .slice A m c] w fun e w' => ∃ g : Nat, e = .returned (.slice (some ⟨g, 0, none⟩) N N) ∧ OwnB w' (w.heap.size + 1) (.slice (some ⟨g, 0, none⟩) N N) N (wetM q t n l) ∧ Below w.heap.size w w' := by
  obtain ⟨hq1, hq2⟩ := hq
  obtain ⟨hn1, hn2⟩ := hn
  have hb0 : Below (w.heap.size + 1) (w.alloc (.cells #[.int .i64 q, .int .i64 t, .int .i64 n] 35)) (w.alloc (.cells #[.int .i64 q, .int .i64 t, .int .i64 n] 35)) := Below.refl _ _
  have hb00 : Below w.heap.size w (w.alloc (.cells #[.int .i64 q, .int .i64 t, .int .i64 n] 35)) := (Below.refl _ _).alloc (Nat.le_refl _) _
  have hNI : ((N : Nat) : Int) = n * q := by rw [← hN, Int.natCast_mul, show ((q.toNat : Nat) : Int) = q by omega]
  have hnq1 : 0 ≤ (n : Int) * q := Int.mul_nonneg (by omega) (by omega)
  have hnq2 : (n : Int) * q ≤ 31 * 31 := Int.mul_le_mul (by omega) hq2 (by omega) (by omega)
  have hnq3 : 0 < (n : Int) * q := Int.mul_pos (by omega) (by omega)
  have hbd := rsB_bd l (-1) hr
  have HNI := Lib.hid hNI
  have HBD := Lib.hid hbd
  have HM := Lib.hid hm
  have HN := Lib.hid hN
  clear hr hNI hbd hm hN
  go_enter Try.func51, Try.ntmps51
  go_wp2_with (at_make; refine wpList_makeBools _ rfl _ _ rfl (w.heap.size + 1) _ _ N rfl rfl HNI.out.symm HNI.out.symm (by have := HNI.out; omega) (by simp) ?_)
  intro w2 hown hgr
  have hb2 : Below (w.heap.size + 1) (w.alloc (.cells #[.int .i64 q, .int .i64 t, .int .i64 n] 35)) w2 := hb0.grown hgr (by simp) (by intro k hk; cases hk)
  obtain ⟨g, hg⟩ : ∃ g, w.heap.size + 1 = g := ⟨_, rfl⟩
  rw [show ((w.heap.size + 1 : Nat)) = g from hg] at hown ⊢
  have hown : OwnB w2 (w.heap.size + 1) (.slice (some ⟨g, 0, none⟩) N N) N (wetM q t n (l.take 0)) := by
    have := hown.mono (B := w.heap.size + 1) (by omega)
    simpa [wetM, HN.out] using this
  have HB0 := Lib.hid hb00
  have hg1 : w.heap.size + 1 ≤ g := by omega
  clear hgr hb0 hb00 hg
  go_wp2
  go_loopw [6] (fun i wr => ∃ k : Nat, k ≤ m ∧ i = .int .i64 k ∧ OwnB wr (w.heap.size + 1) (.slice (some ⟨g, 0, none⟩) N N) N (wetM q t n (l.take k)) ∧ Below (w.heap.size + 1) (w.alloc (.cells #[.int .i64 q, .int .i64 t, .int .i64 n] 35)) wr) (fun i _ => m - (intOf i).toNat)
  case atStart => exact ⟨0, by omega, rfl, hown, hb2⟩
  case round =>
    clear hown hb2
    obtain ⟨k, hk, rfl, hown, hbl⟩ := hrel
    have k0 := hbl.cell (p := ⟨w.heap.size, 0, none⟩) (by simp)
    have k1 := hbl.cell (p := ⟨w.heap.size, 1, none⟩) (by simp)
    have k2 := hbl.cell (p := ⟨w.heap.size, 2, none⟩) (by simp)
    simp [go_sem] at k0 k1 k2
    have hsz := hbl.size
    simp at hsz
    by_cases hlt : k < m
    · obtain ⟨b, off, rfl, hbA, hc⟩ := (hA.below (HB0.out.trans (hbl.mono (by omega)))).get (k := k) (by rw [HM.out]; exact hlt)
      have hit := HBD.out k (by rw [HM.out]; exact hlt)
      have hwt := wetM_take_succ q t n l k (by rw [HM.out]; exact hlt)
      generalize l[k]'(by rw [HM.out]; exact hlt) = item at *
      obtain ⟨hit1, hit2⟩ := hit
      have cm : ∀ W, Calls Try.prog 48 #[pools q t n, .int .i64 item] W (RetOwn (membersM q item t n) W) := fun W => refMembers_own q item t n W ⟨hq1, hq2⟩ ht hn2 ⟨by omega, by omega⟩
      have hmb := fun (j : Nat) (hj : j < (membersM q item t n).length) => members_bd (q := q) (item := item) hq1 t n hj
      have hml := membersM_length q item t n
      have HWT := Lib.hid hwt
      have HMB := Lib.hid hmb
      have HML := Lib.hid hml
      clear hwt hmb hml
      generalize membersM q item t n = xs at *
      go_wp2
      go_still_tail 5, (by kernel_rfl)
      change wpList _ _ _ _ _ wr.drew
      go_wp2_with (go_at_call 48; refine (cm _).mono ?_; intro e w3 hs; obtain ⟨A3, c3, rfl, hX, hX0, hb3⟩ := hs.lie HML.out)
      have hown3 : OwnB w3 (w.heap.size + 1) (.slice (some ⟨g, 0, none⟩) N N) N (setAll (wetM q t n (l.take k)) (xs.take 0)) := by
        have := OwnB.below (w := wr.drew) hown hb3
        simpa [setAll] using this
      have hbl3 := (below_drewN' hbl 1).trans (hb3.mono (B' := w.heap.size + 1) (by simp; omega))
      have hgl := (hown.lt g rfl).2
      have hX1 : ∀ a, A3 = some a → a.block ∉ [g] := by
        intro a ha hm
        have := hX0 a ha
        simp at this
        simp at hm
        omega
      have HX1 := Lib.hid hX1
      clear hX1 hX0 hown hbl hb3 k0 k1 k2 cm
      obtain ⟨wo, rfl⟩ : ∃ wo, wo = w3 := ⟨_, rfl⟩
      go_loopw [8] (fun i wr => ∃ j : Nat, j ≤ n ∧ i = .int .i64 j ∧ OwnB wr (w.heap.size + 1) (.slice (some ⟨g, 0, none⟩) N N) N (setAll (wetM q t n (l.take k)) (xs.take j)) ∧ Fr [g] wo wr ∧ Below (w.heap.size + 1) (w.alloc (.cells #[.int .i64 q, .int .i64 t, .int .i64 n] 35)) wr) (fun i _ => n - (intOf i).toNat)
      case atStart => exact ⟨0, by omega, rfl, hown3, Fr.refl _ _, hbl3⟩
      case round =>
        clear hown3 hbl3
        obtain ⟨j, hj, rfl, hown, hfr, hbl⟩ := hrel
        by_cases hlj : j < n
        · obtain ⟨b3, o3, rfl, hb3, hc3⟩ := Ints.get (At.fr hX hfr HX1.out) (k := j) (by rw [HML.out]; exact hlj)
          have hpb := HMB.out j (by rw [HML.out]; exact hlj)
          have hts := setAll_take_succ (wetM q t n (l.take k)) xs j (by rw [HML.out]; exact hlj)
          generalize xs[j]'(by rw [HML.out]; exact hlj) = p at *
          obtain ⟨hp1, hp2⟩ := hpb
          have hp3 : p < ((N : Nat) : Int) := by rw [HNI.out]; exact hp2
          have hp4 : p.toNat < N := by omega
          obtain ⟨pn, rfl⟩ : ∃ pn : Nat, p = pn := ⟨p.toNat, by omega⟩
          rw [Int.toNat_natCast] at hts hp4
          obtain ⟨y, hy⟩ := hown.cell hp4
          have hfz := hown.frozen pn
          have HTS := Lib.hid hts
          clear hts hp2
          go_wp2
          go_roundw
          case rel => exact ⟨j + 1, by omega, by go_num, by rw [HTS.out]; exact hown.set pn true, hfr.set _ (.inl (by simp)) _, hbl.setCell (by simp; omega) _⟩
          case measure => simp [intOf]; omega
        · obtain rfl : j = n := by omega
          have hfin : setAll (wetM q t j (l.take k)) (xs.take j) = wetM q t j (l.take (k + 1)) := by
            rw [HWT.out, List.take_of_length_le (l := xs) (by rw [HML.out]; omega)]
          rw [hfin] at hown
          clear hfin
          go_wp2
          go_roundw
          case rel => exact ⟨k + 1, by omega, by go_num, hown, hbl⟩
          case measure => simp [intOf]; omega
    · obtain rfl : k = m := by omega
      rw [List.take_of_length_le (by rw [HM.out]; omega)] at hown
      have hbf := HB0.out.trans (hbl.mono (by omega))
      clear k0 k1 k2
      go_wp2
      go_ret
      exact ⟨g, rfl, hown, hbf⟩
end Go.Proofs.Ytneliejncfncdaa
