/- The document's Nodes: its contract (printed by expand.py). -/
import Derived.Test.YtobpacebpiabcaaDoorBk
namespace Go.Proofs.YtobpacebpiabcaaDoor
open Go.RowKit Go.Lib

theorem refkids_any (k : Int) (w : World) : Calls Tryd.prog 57 #[.int .i64 k] w (RetV (.int .i64 (kidsN k)) w) := by
  have hk : k = 1 ∨ k = 2 ∨ k = 3 ∨ k = 6 ∨ k = 7 ∨ k = 8 ∨ k = 10 ∨ k = 4 ∨ k = 5 ∨ k = 9 ∨ (k ≠ 1 ∧ k ≠ 2 ∧ k ≠ 3 ∧ k ≠ 6 ∧ k ≠ 7 ∧ k ≠ 8 ∧ k ≠ 10 ∧ k ≠ 4 ∧ k ≠ 5 ∧ k ≠ 9) := by omega
  rcases hk with e | e | e | e | e | e | e | e | e | e | ⟨h1, h2, h3, h4, h5, h6, h7, h8, h9, h10⟩
  iterate 10
    · subst e
      go_enter Tryd.func57, Tryd.ntmps57
      go_wp2
      go_ret
      exact ⟨rfl, rfl⟩
  go_enter Tryd.func57, Tryd.ntmps57
  go_wp2
  go_ret
  exact ⟨by simp [kidsN, h1, h2, h3, h4, h5, h6, h7, h8, h9, h10], rfl⟩
/-- What the document's Nodes returns: as many as there are, or more than most. -/
def RetNodes (c : Nat) (most : Int) (w : World) (e : Ending) (w' : World) : Prop := ∃ r : Int, e = .returned (.int .i64 r) ∧ 1 ≤ r ∧ r ≤ c ∧ ((c : Int) ≤ most → r = c) ∧ (most < (c : Int) → most < r) ∧ Below w.heap.size w w'
def RefNodesOk (N : Nat) : Prop := ∀ (t : Tm) (S : Nat → Prop) (v : Value) (w : World) (most : Int), t.2.2.2.cnt < N → t.2.2.2.cnt ≤ 1000000 → TmV S w v t → 0 ≤ most → most ≤ 1000000 → Calls Tryd.prog 35 #[v, .int .i64 most] w (RetNodes t.fo.cnt most w)
set_option maxHeartbeats 6400000 in
theorem refnodes_step (N : Nat) (IH : RefNodesOk N) : RefNodesOk (N + 1) := by
  intro t S v w most hN hcn hv hl0 hl1
  obtain ⟨u, rfl, hu⟩ := hv
  obtain ⟨k, nm, n, ks⟩ := t
  obtain ⟨A, m, c, rfl, hm, hmc, hcm, hks⟩ := hu.open'
  dsimp only at *
  have HFC := Lib.hid (fo_cnt (k, nm, n, ks))
  have HIH := Lib.hid (show ∀ W j (_ : j < m) (_ : Below w.heap.size w W) u (_ : KidsV S w u (ks.get j).2.2.2) (l : Int), 0 ≤ l → l ≤ 1000000 → Calls Tryd.prog 35 #[.agg #[.int .i64 (ks.get j).1, .string ⟨(ks.get j).2.1.toArray⟩, .int .i64 (ks.get j).2.2.1, u], .int .i64 l] W (RetNodes (ks.get j).fo.cnt l W) from
    fun W j hj hb u hu l h0 h1 => IH (ks.get j) S _ W l (by have := Fo.get_cnt ks j (by omega); omega) (by have := Fo.get_cnt ks j (by omega); omega) ⟨u, rfl, hu.below hb⟩ h0 h1)
  have HG := Lib.hid (fun b off (e : A = some ⟨b, off, none⟩) j (hj : j < ks.len) => KidsAt.get (b := b) (off := off) (i := j) (show KidsAt S w (some ⟨b, off, none⟩) ks by rw [← e]; exact hks) hj)
  have HAT := Lib.hid (fun (h : 0 < ks.len) => hks.at h)
  have HM := Lib.hid hm
  have HCT := Lib.hid (fun j (hj : j < ks.len) => Fo.cntTo_succ ks j hj)
  have HCL := Lib.hid (fun j => Fo.cntTo_le ks j)
  have HCE := Lib.hid (Fo.cntTo_len ks)
  have HCN := Lib.hid hcn
  have HKC := Lib.hid (fun j => fo_cnt (ks.get j))
  clear IH hks hu hm hN hcn
  unfold maxLen at hcm
  obtain ⟨W3, hW3⟩ : ∃ W3, W3 = w.alloc (.cells #[.int .i64 k, .string ⟨nm.toArray⟩, .int .i64 n, .slice A m c] 26) := ⟨_, rfl⟩
  have hB : Below w.heap.size w W3 := by rw [hW3]; exact (Below.refl _ _).alloc (Nat.le_refl _) _
  have hx : Boxed W3 w.heap.size k nm n A m c := by rw [hW3]; exact Boxed.new _ _ _ _ _ _ _ _
  have HX := Lib.hid hx
  have HBW := Lib.hid hB
  clear hx hB
  go_enter Tryd.func35, Tryd.ntmps35
  go_upto_region 1 with fail
  rw [← hW3]
  clear hW3
  go_wp2
  go_loopw [5, 6] (fun s i wr => ∃ (j : Nat) (q : Int), j ≤ m ∧ i = .int .i64 j ∧ s = .int .i64 q ∧ 1 ≤ q ∧ q ≤ 1 + ks.cntTo j ∧ (q ≤ most → q = 1 + ks.cntTo j) ∧ Below w.heap.size w wr ∧ Boxed wr w.heap.size k nm n A m c) (fun _ i _ => m - (intOf i).toNat)
  case atStart => exact ⟨0, 1, Nat.zero_le _, rfl, rfl, by omega, by omega, fun _ => by cases ks <;> rfl, HBW.out, HX.out⟩
  case round =>
    clear HBW HX
    obtain ⟨j, q, hj, rfl, rfl, hq1, hq2, hqe, hbw, hbx⟩ := hrel
    have HB := Lib.hid hbw
    have HX := Lib.hid hbx
    have hcl := HCL.out j
    have hcn := HCN.out
    have hq3 : q ≤ 1000001 := by omega
    have HQ2 := Lib.hid hq2
    have HQE := Lib.hid hqe
    clear hbw hbx hqe hq2 hcl hcn
    have k3 := HX.out.2.2.2.2
    by_cases hlt : j < m
    · by_cases hqm : q ≤ most
      · have hlt2 : j < ks.len := by rw [HM.out]; exact hlt
        obtain ⟨b, off, rfl, _, hb⟩ := HAT.out (by omega)
        obtain ⟨u, hu, hc0, hc1, hc2, hc3⟩ := HG.out b off rfl j hlt2
        replace hc0 := (HB.out.cell (p := ⟨b, off + j * 4, none⟩) hb).trans hc0
        replace hc1 := (HB.out.cell (p := ⟨b, off + j * 4 + 1, none⟩) hb).trans hc1
        replace hc2 := (HB.out.cell (p := ⟨b, off + j * 4 + 2, none⟩) hb).trans hc2
        replace hc3 := (HB.out.cell (p := ⟨b, off + j * 4 + 3, none⟩) hb).trans hc3
        obtain ⟨A2, m2, c2, rfl, -⟩ := hu.open'
        have cr := fun W hb => HIH.out W j hlt hb _ hu (most - q) (by omega) (by omega)
        have hw1 : IntKind.i64.wrap (most - q) = most - q := by rw [IntKind.wrap_i64]; omega
        have hct := HCT.out j hlt2
        have hkc := HKC.out j
        have hc9 : (ks.get j).fo.cnt ≤ 1000001 := by have h1 := HCL.out (j + 1); have h2 := HCN.out; omega
        generalize (ks.get j).fo.cnt = kc at *
        generalize (ks.get j).1 = kk at *
        generalize (ks.get j).2.1 = knm at *
        generalize (ks.get j).2.2.1 = kn' at *
        have HCT2 := Lib.hid hct
        have HKC2 := Lib.hid hkc
        clear hct hkc hu HG HAT HIH HCT HCL HCE HCN HKC
        go_wp2_with fail
        refine (cr _ HB.out).mono ?_
        rintro e W5 ⟨r, rfl, hr1, hr2, hr3, hr4, hn⟩
        have HW5 := Lib.hid (HB.out.trans (hn.mono HB.out.size))
        have HX5 := Lib.hid (HX.out.below hn)
        have HR3 := Lib.hid hr3
        have HR4 := Lib.hid hr4
        have hw2 : IntKind.i64.wrap (q + r) = q + r := by rw [IntKind.wrap_i64]; omega
        clear cr hn hc0 hc1 hc2 hc3 k3 hr3 hr4
        go_wp2_with fail
        go_roundw
        case rel =>
          have h1 := HCT2.out
          have h2 := HKC2.out
          have h3 := HQE.out hqm
          have h4 := HR3.out
          have h5 := HR4.out
          have h6 := HQ2.out
          exact ⟨j + 1, q + r, by omega, by go_num, rfl, by omega, by omega, fun h => by omega, HW5.out, HX5.out⟩
        case measure => simp [intOf]; omega
      · have dq : decide (q ≤ most) = false := decide_eq_false hqm
        clear HG HAT HIH HKC HCT
        go_wp2
        go_ret
        have h1 := HCL.out j
        have h2 := HQ2.out
        have h3 := HFC.out
        refine ⟨q, rfl, hq1, ?_, ?_, ?_, HB.out⟩
        · rw [h3]; show q ≤ ((ks.cnt + 1 : Nat) : Int); omega
        · rw [h3]; show ((ks.cnt + 1 : Nat) : Int) ≤ most → _; intro h; omega
        · intro _; omega
    · have hjm : j = m := by omega
      subst hjm
      clear HG HAT HIH HKC HCT
      go_wp2
      go_ret
      have h1 : ks.cntTo j = ks.cnt := by rw [← HM.out]; exact HCE.out
      have h2 := HQ2.out
      have h3 := HFC.out
      have h4 := HQE.out
      rw [h1] at h2 h4
      refine ⟨q, rfl, hq1, ?_, ?_, ?_, HB.out⟩
      · rw [h3]; show q ≤ ((ks.cnt + 1 : Nat) : Int); omega
      · rw [h3]; show ((ks.cnt + 1 : Nat) : Int) ≤ most → q = ((ks.cnt + 1 : Nat) : Int); intro h; omega
      · rw [h3]; show most < ((ks.cnt + 1 : Nat) : Int) → most < q; intro h; omega
theorem refnodes_any : ∀ (N : Nat), RefNodesOk N
  | 0 => fun _ _ _ _ _ h => absurd h (by omega)
  | N + 1 => refnodes_step N (refnodes_any N)
end Go.Proofs.YtobpacebpiabcaaDoor
