/- Texts K in one. -/
import Derived.Test.YtneliejncfncdaaPkJ
import Derived.BigRegion
import Derived.Deep.DeepCutAuto
namespace Go.Proofs.Ytneliejncfncdaa
open Go.RowKit

theorem steps_facts (pwf : Int → Int) (q : Int) (hq : 1 ≤ q) (rs : List (List Int)) (u n : Nat) (hg : Good q n rs) : ∀ k, k ≤ u →
    (steps pwf q rs u k).rs.length = rs.length ∧ Good q n (steps pwf q rs u k).rs ∧ (steps pwf q rs u k).done ≤ rs.length ∧ (steps pwf q rs u k).lead.length = u ∧
    (∀ (j : Nat) (x : Int), (steps pwf q rs u k).lead[j]? = some x → 0 ≤ x ∧ x ≤ (steps pwf q rs u k).done) := by
  intro k
  induction k with
  | zero =>
    intro _
    refine ⟨rfl, hg, Nat.zero_le _, by simp [steps], fun j x hx => ?_⟩
    simp only [steps] at hx
    rw [List.getElem?_replicate] at hx
    split at hx
    · cases hx; simp [steps]
    · cases hx
  | succ k ih =>
    intro hk
    obtain ⟨h1, h2, h3, h4, h5⟩ := ih (by omega)
    rw [steps]
    generalize steps pwf q rs u k = st at *
    unfold step
    have hp := pivot_le st.rs k (st.rs.length - st.done) st.done
    by_cases hpm : pivot st.rs k (st.rs.length - st.done) st.done = st.rs.length
    · simp only [if_pos hpm]; exact ⟨h1, h2, h3, h4, h5⟩
    · simp only [if_neg hpm]
      have hgs := h2.swapped (i := st.done) (j := pivot st.rs k (st.rs.length - st.done) st.done) (by omega) (by omega)
      have hgn : Good q n (norm pwf q k (swapped st.rs st.done (pivot st.rs k (st.rs.length - st.done) st.done)) st.done) := hgs.scaled hq (by rw [swapped_length]; omega) _ _
      refine ⟨by rw [cleared_length, norm_length, swapped_length]; exact h1, hgn.cleared hq _ _ _ (by rw [norm_length, swapped_length]; omega), by omega, by simpa using h4, fun j x hx => ?_⟩
      rw [List.getElem?_set] at hx
      split at hx
      · split at hx
        · cases hx; omega
        · cases hx
      · have := h5 j x hx; omega

def pwf (q : Int) : Int → Int := fun a => pw q a (q - 2).toNat

/-- Two rows exchanged, as the region does it. -/
theorem swap_mat {w : World} {X : List Nat} {R cap i j : Nat} {rs : List (List Int)} {x y : Value} (h : Mat w X R cap rs) (hi : i < rs.length) (hj : j < rs.length)
    (hx : w.cell? ⟨R, j, none⟩ = some x) (hy : w.cell? ⟨R, i, none⟩ = some y) : Mat ((w.setCell ⟨R, i, none⟩ x).setCell ⟨R, j, none⟩ y) X R cap (swapped rs i j) := by
  have gi : rs[i]? = some (rs.getD i []) := by simp [List.getD, hi]
  have gj : rs[j]? = some (rs.getD j []) := by simp [List.getD, hj]
  have rj := h.rowAt gj hx
  have ri := h.rowAt gi hy
  have hf : Fr [R] w (w.setCell ⟨R, i, none⟩ x) := (Fr.refl _ _).set _ (.inl (by simp)) _
  exact (h.set rj hi).set (ri.fr hf (by intro k hk _; simp at hk; subst hk; exact h.1)) (by simpa using hj)

theorem below_of_drew {B : Nat} {a w : World} (h : Below B a.drew w) : Below B a w := ⟨h.os, h.tape, h.output, h.size, h.block⟩

/-- What solve returns. -/
def RetSolve (st : St) (u R : Nat) (w : World) (e : Ending) (w' : World) : Prop :=
  ∃ v, e = .returned (.tuple #[v, .bool (okOf st u)]) ∧ Fr [R] w w' ∧ (okOf st u = true → OwnI w' w.heap.size v u (outOf st u)) ∧ (okOf st u = false → v = .slice none 0 0)

set_option maxRecDepth 100000 in
set_option maxHeartbeats 3200000 in
theorem solve_any (q : Int) (u R cap : Nat) (rs : List (List Int)) (w : World) (hq : 2 ≤ q ∧ q ≤ 31) (hg : Good q (u + 1) rs) (hm : rs.length ≤ 1000) (hu : u ≤ 1000) (hM : Mat w [R] R cap rs) :
    Calls Try.prog 72 #[.int .i64 q, .slice (some ⟨R, 0, none⟩) rs.length cap, .int .i64 u] w (RetSolve (steps (pwf q) q rs u u) u R w) := by
  obtain ⟨hq1, hq2⟩ := hq
  have hmf : ∀ (fn : Fn) (first cap : Array Value) (w : World), (Instr.makeFunc fn first cap).run Try.prog w = .ok (.func fn first cap) w := fun _ _ _ _ => rfl
  have hRl := hM.lt
  go_enter Try.func72, Try.ntmps72
  go_wp2_with (at_make; refine wpList_makeInts _ rfl _ _ rfl (w.heap.size + 1) _ _ u rfl rfl rfl rfl (by omega) (by simp) ?_)
  intro w1 hown1 hgrow1
  have ho : One w1 w.heap.size (.int .i64 q) 86 := (One.new w (.int .i64 q) 86).fr (fr_of_grown (S := []) hgrow1 (by intro k hk; cases hk)) (by simp)
  have hfr1 : Fr [R] w w1 := ((Fr.refl [R] w).alloc _).trans (fr_of_grown hgrow1 (by intro k hk; cases hk))
  have hM1 : Mat w1 [R, w.heap.size, w.heap.size + 1] R cap rs := by
    have h2 : Mat w [R, w.heap.size, w.heap.size + 1] R cap rs := hM.mono (by intro k hk; simp; omega) (by simp)
    exact h2.fr (S := []) (((Fr.refl [] w).alloc _).trans (fr_of_grown hgrow1 (by intro k hk; cases hk))) (by simp) (by simp)
  have hsz1 : w.heap.size + 1 < w1.heap.size := by have := (hown1.lt (w.heap.size + 1) (by simp [Value.ownBlock])).2; exact this
  clear hgrow1 hM
  go_wp2
  go_loopw [11, 26] (fun d i wr => ∃ k : Nat, k ≤ u ∧ i = .int .i64 k ∧ d = .int .i64 ((steps (pwf q) q rs u k).done : Int) ∧ Mat wr [R, w.heap.size, w.heap.size + 1] R cap (steps (pwf q) q rs u k).rs ∧
      OwnI wr (w.heap.size + 1) (.slice (some ⟨w.heap.size + 1, 0, none⟩) u u) u (steps (pwf q) q rs u k).lead ∧ One wr w.heap.size (.int .i64 q) 86 ∧ Fr [R] w wr) (fun _ i _ => u - (intOf i).toNat)
  case atStart => exact ⟨0, by omega, rfl, rfl, hM1, hown1, ho, hfr1⟩
  case round =>
    clear hM1 hown1 ho hfr1
    obtain ⟨k, hk, rfl, rfl, hM, hown, ho, hfr⟩ := hrel
    obtain ⟨f1, f2, f3, f4, f5⟩ := steps_facts (pwf q) q (by omega) rs u (u + 1) hg k hk
    have hst : steps (pwf q) q rs u (k + 1) = step (pwf q) q (steps (pwf q) q rs u k) k := rfl
    have F2 := Lib.hid f2
    have F5 := Lib.hid f5
    have HST := Lib.hid hst
    clear f2 f5 hst
    by_cases hlt : k < u
    · generalize steps (pwf q) q rs u k = st at *
      have F1 := Lib.hid f1
      have F4 := Lib.hid f4
      clear f1 f4
      have hsz : w.heap.size + 1 < wr.heap.size := (hown.lt (w.heap.size + 1) (by simp [Value.ownBlock])).2
      go_wp2
      go_loop [13] (fun s => ∃ a : Nat, st.done ≤ a ∧ a ≤ rs.length ∧ s = .int .i64 a ∧ pivot st.rs k (rs.length - st.done) st.done = pivot st.rs k (rs.length - a) a) (fun s => rs.length - (intOf s).toNat)
      case atStart => exact ⟨st.done, by omega, by omega, rfl, rfl⟩
      case round =>
        obtain ⟨a, ha1, ha2, rfl, hp⟩ := hrel
        have HP := Lib.hid hp
        clear hp
        by_cases hal : a < rs.length
        · have hga := F2.out.get (i := a) (by rw [F1.out]; exact hal)
          have hra : (st.rs.getD a []).length = u + 1 := F2.out.row (by rw [F1.out]; exact hal)
          obtain ⟨ba, oa, ca, cRa, nba, lba, hIa⟩ := hM.get hga
          obtain ⟨_, _, hrfl, _, cEa⟩ := hIa.get (k := k) (by omega)
          cases hrfl
          have hel : el st.rs a k = (st.rs.getD a [])[k]'(by omega) := by unfold el; simp [List.getD, show k < (st.rs[a]?.getD []).length by have := hra; simp [List.getD] at this ⊢; omega]
          have hea := F2.out.el (q := q) (by omega) a k
          rw [hra] at cRa
          rw [← hel] at cEa
          have hpiv : pivot st.rs k (rs.length - a) a = if el st.rs a k = 0 then pivot st.rs k (rs.length - (a + 1)) (a + 1) else a := by
            rw [show rs.length - a = (rs.length - (a + 1)) + 1 by omega]; rfl
          by_cases hz : el st.rs a k = 0
          · rw [if_pos hz] at hpiv
            rw [hz] at cEa
            have HV := Lib.hid hpiv
            clear hpiv hz hel hea hga hIa nba
            go_wp2
            go_round
            case rel => exact ⟨a + 1, by omega, by omega, by go_num, by rw [HP.out, HV.out]⟩
            case measure => simp [intOf]; omega
          · rw [if_neg hz] at hpiv
            have hP : pivot st.rs k (rs.length - st.done) st.done = a := by rw [HP.out, hpiv]
            have HPV := Lib.hid hP
            have HZ := Lib.hid hz
            have HGA := Lib.hid hga
            have HEL := Lib.hid hel
            have HIA := Lib.hid hIa
            have hzb : (el st.rs a k == 0) = false := by simpa using hz
            have hane : ((a : Int) == (rs.length : Int)) = false := by simp; omega
            generalize el st.rs a k = ea at *
            clear hpiv hP hz hel hIa HP
            have hdl : st.done < rs.length := by omega
            have hgd := F2.out.get (i := st.done) (by rw [F1.out]; exact hdl)
            have hrd : (st.rs.getD st.done []).length = u + 1 := F2.out.row (by rw [F1.out]; exact hdl)
            obtain ⟨bd, od, cd, cRd, nbd, lbd, hId⟩ := hM.get hgd
            rw [hrd] at cRd
            have hsw := swap_mat hM (by rw [F1.out]; exact hdl) (by rw [F1.out]; exact hal) cRa cRd
            have HGD := Lib.hid hgd
            have HSW := Lib.hid hsw
            have frd := hM.frozen st.done
            have fra := hM.frozen a
            have i1 : (0 : Int) ≤ (st.done : Int) := by omega
            have i2 : (st.done : Int) < (rs.length : Int) := by omega
            have i3 : (0 : Int) ≤ (a : Int) := by omega
            have i4 : (a : Int) < (rs.length : Int) := by omega
            have hstep : step (pwf q) q st k = { rs := cleared q k st.done (norm (pwf q) q k (swapped st.rs st.done a) st.done) rs.length, lead := st.lead.set k (st.done + 1), done := st.done + 1 } := by
              unfold step
              rw [F1.out, HPV.out]
              simp only [if_neg (show ¬ a = rs.length by omega)]
            have HSTEP := Lib.hid hstep
            clear hgd hsw hga hstep
            go_upto_region 11 with (fail)
            go_cut [50] (fun s50 wx => Mat wx [R, w.heap.size, w.heap.size + 1] R cap (swapped st.rs st.done a) ∧ OwnI wx (w.heap.size + 1) (.slice (some ⟨w.heap.size + 1, 0, none⟩) u u) u st.lead ∧ One wx w.heap.size (.int .i64 q) 86 ∧ Fr [R] w wx)
            case first =>
              have hnR : w.heap.size + 1 ≠ R := by omega
              have hnR2 : w.heap.size ≠ R := by omega
              by_cases e : a = st.done
              · subst e
                rw [cRd] at cRa
                simp only [Option.some.injEq, Value.slice.injEq, Addr.mk.injEq, and_true, true_and] at cRa
                obtain ⟨⟨rfl, rfl⟩, rfl⟩ := cRa
                go_region
                go_wp2_with fail
                go_meet
                have hF : Fr [R] wr ((wr.setCell ⟨R, st.done, none⟩ (.slice (some ⟨bd, od, none⟩) (u + 1) cd)).setCell ⟨R, st.done, none⟩ (.slice (some ⟨bd, od, none⟩) (u + 1) cd)) := ((Fr.refl _ _).set _ (.inl (by simp)) _).set _ (.inl (by simp)) _
                exact ⟨HSW.out, hown.fr hF.drew (fun k hk => by simp only [Value.ownBlock, Option.some.injEq] at hk; subst hk; simpa using hnR), ho.fr hF.drew (by simpa using hnR2), hfr.trans hF.drew⟩
              · go_region
                go_wp2_with fail
                go_meet
                have hF : Fr [R] wr ((wr.setCell ⟨R, st.done, none⟩ (.slice (some ⟨ba, oa, none⟩) (u + 1) ca)).setCell ⟨R, a, none⟩ (.slice (some ⟨bd, od, none⟩) (u + 1) cd)) := ((Fr.refl _ _).set _ (.inl (by simp)) _).set _ (.inl (by simp)) _
                exact ⟨HSW.out, hown.fr hF.drew (fun k hk => by simp only [Value.ownBlock, Option.some.injEq] at hk; subst hk; simpa using hnR), ho.fr hF.drew (by simpa using hnR2), hfr.trans hF.drew⟩
            case rest =>
              have hgsw : Good q (u + 1) (swapped st.rs st.done a) := F2.out.swapped (by rw [F1.out]; exact hdl) (by rw [F1.out]; exact hal)
              have hswl : (swapped st.rs st.done a).length = rs.length := by rw [swapped_length]; exact F1.out
              have hnr : norm (pwf q) q k (swapped st.rs st.done a) st.done = (swapped st.rs st.done a).set st.done (scale q ((swapped st.rs st.done a).getD st.done []) (pw q (el (swapped st.rs st.done a) st.done k) (q - 2).toNat)) := rfl
              clear hM hown ho hfr cRa cRd frd fra HIA HEL nba lba cEa nbd lbd hId HSW HGD
              obtain ⟨hM, hown, ho, hfr⟩ := hcut
              have HGS := Lib.hid hgsw
              have HSL := Lib.hid hswl
              clear hgsw hswl
              generalize swapped st.rs st.done a = rs1 at *
              have HN := Lib.hid hnr
              clear hnr
              have hgd := HGS.out.get (i := st.done) (by rw [HSL.out]; exact hdl)
              have hrd : (rs1.getD st.done []).length = u + 1 := HGS.out.row (by rw [HSL.out]; exact hdl)
              have hre : elemB q (rs1.getD st.done []) = true := (elemB_iff _ _).2 (HGS.out _ _ hgd).2
              obtain ⟨b1, o1, c1, cR, nb1, lb1, hI1⟩ := hM.get hgd
              obtain ⟨_, _, hrfl, _, cE⟩ := hI1.get (k := k) (by omega)
              cases hrfl
              have hel : (rs1.getD st.done [])[k]'(by omega) = el rs1 st.done k := by unfold el; simp [List.getD, show k < (rs1[st.done]?.getD []).length by have := hrd; simp [List.getD] at this ⊢; omega]
              rw [hel] at cE
              clear hel
              rw [hrd] at cR
              obtain ⟨he1, he2⟩ := HGS.out.el (q := q) (by omega) st.done k
              have cF := ho.cell
              have fR := hM.frozen st.done
              have hwc : w.heap.size + 1 < wc.heap.size := (hown.lt (w.heap.size + 1) (by simp [Value.ownBlock])).2
              generalize el rs1 st.done k = e1 at *
              generalize hR1 : rs1.getD st.done [] = r1 at *
              have HR1 := Lib.hid hR1
              have HGD := Lib.hid hgd
              have HRD := Lib.hid hrd
              have hnb1 : b1 ≠ R := fun e => nb1 (by rw [e]; simp)
              have hnf : w.heap.size ≠ R := by omega
              have hpw := pw_bd (q := q) (a := e1) (by omega) (q - 2).toNat
              obtain ⟨hpw1, hpw2⟩ := hpw
              have HI := Lib.hid hI1
              have HM := Lib.hid hM
              have hscl : (scale q r1 (pw q e1 (q - 2).toNat)).length = u + 1 := by rw [scale_length]; exact HRD.out
              have HSC := Lib.hid hscl
              have j1 : (0 : Int) ≤ (k : Int) := by omega
              have j2 : (k : Int) < (((u + 1 : Nat)) : Int) := by omega
              have j3 : (k : Int) < (u : Int) + 1 := by omega
              have j4 : IntKind.i64.wrap ((u : Int) + 1) = (u : Int) + 1 := IntWalk.i64_in _ (by omega)
              clear hR1 hgd hrd hI1 hM hscl
              go_upto_region 12 with (fail)
              go_cut [64] (fun s64 wx => Mat wx [R, w.heap.size, w.heap.size + 1] R cap (norm (pwf q) q k rs1 st.done) ∧ OwnI wx (w.heap.size + 1) (.slice (some ⟨w.heap.size + 1, 0, none⟩) u u) u st.lead ∧ One wx w.heap.size (.int .i64 q) 86 ∧ Fr [R] w wx)
              case first =>
                refine Lex.wp_region_lex (fun w' => w'.cell? ⟨w.heap.size, 0, none⟩ = some (.int .i64 q) ∧ w'.cell? ⟨R, st.done, none⟩ = some (.slice (some ⟨b1, o1, none⟩) (u + 1) c1) ∧ w'.cell? ⟨b1, o1 + k, none⟩ = some (.int .i64 e1)) (fun j => j != 21)
                  [(0, true), (1, true), (2, true), (3, true), (4, true), (5, true), (6, true), (7, true), (8, true), (9, true), (10, true), (11, true), (12, true), (13, true), (14, true), (16, true), (17, true), (15, false), (18, false), (19, false), (20, true), (21, false)]
                  (by kernel_rfl) (by kernel_rfl) (by kernel_rfl) (by kernel_rfl) ⟨cF, cR, cE⟩ ?_
                repeat (refine Lex.lex_take (v := ?_) rfl rfl (by rfl) (fun _ hS => ?_) ?_; rotate_left 1; (focus (go_split_ands; go_simp; with_reducible rfl)); simp only [List.setIfInBounds_toArray, List.set_cons_zero, List.set_cons_succ])
                refine Lex.lex_do rfl ?_
                go_wp2_with (go_at_call 67; refine (inverse_any q e1 _ ⟨hq1, hq2⟩ ⟨he1, by omega⟩).mono ?_; rintro e w' ⟨rfl, rfl⟩)
                refine Lex.lexQ_normal (fun _ => ⟨cF, cR, cE⟩) ?_
                refine Lex.lex_do rfl ?_
                go_wp2_with fail
                refine (same_any _ _ (u + 1) _ (by omega) (by omega)).mono ?_
                rintro e w2 ⟨v2, rfl, hown2, hb2⟩
                have HI2 := (Ints.drew HI.out).below hb2
                have cR2 := (hb2.cell (p := ⟨R, st.done, none⟩) HM.out.lt).trans cR
                have fR2 := (hb2.frozen (p := ⟨R, st.done, none⟩) HM.out.lt).trans fR
                have cF2 := (hb2.cell (p := ⟨w.heap.size, 0, none⟩) (by simp; omega)).trans cF
                have cE2 := (hb2.cell (p := ⟨b1, o1 + k, none⟩) lb1).trans cE
                have hwc2 : wc.heap.size ≤ w2.heap.size := hb2.size
                obtain ⟨g2, c2, hv2, hg2, hlt2⟩ := hown2.form (by simp)
                simp only [List.length_map, List.length_range] at hv2
                subst hv2
                have HI3 := Lib.hid hown2.ints
                have HB2 := Lib.hid hb2
                clear hown2 hb2
                go_wp2_with fail
                refine Lex.lexQ_normal (fun _ => ⟨cF2, cR2, cE2⟩) ?_
                refine Lex.lex_do rfl ?_
                go_wp2_with fail
                refine (each_mul w.heap.size q _ _ _ _ _ (u + 1) r1 _ ⟨hq1, hq2⟩ ⟨hpw1, hpw2⟩ cF2 hre HRD.out (by omega) HI2 HI3.out).mono ?_
                rintro e w3 ⟨v3, rfl, hown3, hb3⟩
                have HB3 := Lib.hid (HB2.out.trans (hb3.mono hwc2))
                have cR3 := (HB3.out.cell (p := ⟨R, st.done, none⟩) HM.out.lt).trans cR
                have fR3 := (HB3.out.frozen (p := ⟨R, st.done, none⟩) HM.out.lt).trans fR
                have cF3 := (HB3.out.cell (p := ⟨w.heap.size, 0, none⟩) (by simp; omega)).trans cF
                have cE3 := (HB3.out.cell (p := ⟨b1, o1 + k, none⟩) lb1).trans cE
                rw [HSC.out] at hown3
                obtain ⟨g3, c3, hv3, hg3, hlt3⟩ := hown3.form (by omega)
                subst hv3
                have HO3 := Lib.hid hown3
                clear hown3 hb3
                go_wp2_with fail
                refine Lex.lexQ_normal (fun _ => ⟨cF3, cR3, cE3⟩) ?_
                repeat (refine Lex.lex_take (v := ?_) rfl rfl (by rfl) (fun _ hS => ?_) ?_; rotate_left 1; (focus (go_split_ands; go_simp; with_reducible rfl)); simp only [List.setIfInBounds_toArray, List.set_cons_zero, List.set_cons_succ])
                refine Lex.lex_do rfl ?_
                go_wp2_with fail
                refine Lex.lexQ_normal (fun h => absurd h (by decide)) ?_
                refine Lex.lex_nil ?_
                go_wp2_with fail
                go_meet
                have hBw : Below wc.heap.size wc w3 := below_of_drew HB3.out
                have hM3 : Mat w3 [R, w.heap.size, w.heap.size + 1] R cap rs1 := HM.out.below hBw
                have hrow := rowAt_own (B := w2.heap.size) (r := scale q r1 (pw q e1 (q - 2).toNat)) (by rw [HSC.out]; exact HO3.out) (by rw [HSC.out]; omega) [R, w.heap.size, w.heap.size + 1] (by have := HM.out.lt; simp; omega)
                have hF : Fr [R] wc (w3.setCell ⟨R, st.done, none⟩ (.slice (some ⟨g3, 0, none⟩) (u + 1) c3)) := (fr_of_below hBw [R]).set _ (.inl (by simp)) _
                exact ⟨by rw [HN.out]; exact hM3.set hrow (by rw [HSL.out]; omega), hown.fr hF (fun k hk => by simp only [Value.ownBlock, Option.some.injEq] at hk; subst hk; simp; omega), ho.fr hF (by simp; omega), hfr.trans hF⟩
              case rest =>
                have hgn : Good q (u + 1) (norm (pwf q) q k rs1 st.done) := HGS.out.scaled (by omega) (by rw [HSL.out]; exact hdl) _ _
                have hnl : (norm (pwf q) q k rs1 st.done).length = rs.length := by rw [norm_length]; exact HSL.out
                clear hown ho hfr cR cE cF fR HN HGD HRD HI HM HSC HGS HSL HR1 lb1 nb1 hnb1 hre hpw1 hpw2 he1 he2
                obtain ⟨hM, hown, ho, hfr⟩ := hcut
                have HG2 := Lib.hid hgn
                have HL2 := Lib.hid hnl
                clear hgn hnl
                generalize norm (pwf q) q k rs1 st.done = rs2 at *
                go_wp2
                go_loopw [87] (fun i wx => ∃ j : Nat, j ≤ rs.length ∧ i = .int .i64 j ∧ Mat wx [R, w.heap.size, w.heap.size + 1] R cap (cleared q k st.done rs2 j) ∧ OwnI wx (w.heap.size + 1) (.slice (some ⟨w.heap.size + 1, 0, none⟩) u u) u st.lead ∧ One wx w.heap.size (.int .i64 q) 86 ∧ Fr [R] w wx) (fun i _ => rs.length - (intOf i).toNat)
                case atStart => exact ⟨0, by omega, rfl, hM, hown, ho, hfr⟩
                case round =>
                  clear hM hown ho hfr
                  rename_i wo
                  obtain ⟨j, hj, rfl, hM, hown, ho, hfr⟩ := hrel
                  by_cases hjl : j < rs.length
                  · have hgc : Good q (u + 1) (cleared q k st.done rs2 j) := HG2.out.cleared (by omega) _ _ _ (by rw [HL2.out]; omega)
                    have hlc : (cleared q k st.done rs2 j).length = rs.length := by rw [cleared_length]; exact HL2.out
                    have hcs : cleared q k st.done rs2 (j + 1) = if j = st.done ∨ el (cleared q k st.done rs2 j) j k = 0 then cleared q k st.done rs2 j
                        else (cleared q k st.done rs2 j).set j (less q ((cleared q k st.done rs2 j).getD j []) (scale q ((cleared q k st.done rs2 j).getD st.done []) (el (cleared q k st.done rs2 j) j k))) := rfl
                    have HC := Lib.hid hcs
                    clear hcs
                    generalize cleared q k st.done rs2 j = rs3 at *
                    have hgj := hgc.get (i := j) (by rw [hlc]; exact hjl)
                    have hgd := hgc.get (i := st.done) (by rw [hlc]; exact hdl)
                    have hrj : (rs3.getD j []).length = u + 1 := hgc.row (by rw [hlc]; exact hjl)
                    have hrd : (rs3.getD st.done []).length = u + 1 := hgc.row (by rw [hlc]; exact hdl)
                    have hej : elemB q (rs3.getD j []) = true := (elemB_iff _ _).2 (hgc _ _ hgj).2
                    have hed : elemB q (rs3.getD st.done []) = true := (elemB_iff _ _).2 (hgc _ _ hgd).2
                    obtain ⟨b1, o1, c1, cR, nb1, lb1, hI1⟩ := hM.get hgj
                    obtain ⟨b2, o2, c2, cD, nb2, lb2, hI2⟩ := hM.get hgd
                    obtain ⟨_, _, hrfl, _, cE⟩ := hI1.get (k := k) (by omega)
                    cases hrfl
                    have hel : (rs3.getD j [])[k]'(by omega) = el rs3 j k := by unfold el; simp [List.getD, show k < (rs3[j]?.getD []).length by have := hrj; simp [List.getD] at this ⊢; omega]
                    rw [hel] at cE
                    clear hel
                    rw [hrj] at cR
                    rw [hrd] at cD
                    obtain ⟨he1, he2⟩ := hgc.el (q := q) (by omega) j k
                    have cF := ho.cell
                    have fR := hM.frozen j
                    have hwc : w.heap.size + 1 < wr.heap.size := (hown.lt (w.heap.size + 1) (by simp [Value.ownBlock])).2
                    generalize el rs3 j k = e1 at *
                    generalize hR1 : rs3.getD j [] = r1 at *
                    generalize hR2 : rs3.getD st.done [] = r2 at *
                    have HGC := Lib.hid hgc
                    have HLC := Lib.hid hlc
                    have HGJ := Lib.hid hgj
                    have HGD := Lib.hid hgd
                    have HRJ := Lib.hid hrj
                    have HRD := Lib.hid hrd
                    have HI1 := Lib.hid hI1
                    have HI2 := Lib.hid hI2
                    have HM2 := Lib.hid hM
                    have hnf : w.heap.size ≠ R := by omega
                    have j1 : (0 : Int) ≤ (k : Int) := by omega
                    have j3 : (k : Int) < (u : Int) + 1 := by omega
                    have j4 : IntKind.i64.wrap ((u : Int) + 1) = (u : Int) + 1 := IntWalk.i64_in _ (by omega)
                    have j5 : (0 : Int) ≤ (j : Int) := by omega
                    have j6 : (j : Int) < (rs.length : Int) := by omega
                    clear hgc hlc hgj hgd hR1 hR2 hrj hrd hI1 hI2 hM
                    by_cases hjd : j = st.done
                    · have p1 : ((j : Int) == (st.done : Int)) = true := by simp [hjd]
                      have p2 : ((j : Int) != (st.done : Int)) = false := by simp [hjd]
                      have hc1 : cleared q k st.done rs2 (j + 1) = rs3 := by rw [HC.out, if_pos (.inl hjd)]
                      have HC1 := Lib.hid hc1
                      clear hc1 hjd
                      go_wp2
                      go_roundw
                      case rel => exact ⟨j + 1, by omega, by go_num, by rw [HC1.out]; exact HM2.out, hown, ho, hfr⟩
                      case measure => simp [intOf]; omega
                    · have p1 : ((j : Int) == (st.done : Int)) = false := by simp; omega
                      have p2 : ((j : Int) != (st.done : Int)) = true := by simp; omega
                      by_cases hz : e1 = 0
                      · have p3 : (e1 == 0) = true := by simp [hz]
                        have p4 : (e1 != 0) = false := by simp [hz]
                        have hc1 : cleared q k st.done rs2 (j + 1) = rs3 := by rw [HC.out, if_pos (.inr hz)]
                        have HC1 := Lib.hid hc1
                        clear hc1 hz
                        go_wp2
                        go_roundw
                        case rel => exact ⟨j + 1, by omega, by go_num, by rw [HC1.out]; exact HM2.out, hown, ho, hfr⟩
                        case measure => simp [intOf]; omega
                      · have p3 : (e1 == 0) = false := by simpa using hz
                        have p4 : (e1 != 0) = true := by simpa using hz
                        have hc1 : cleared q k st.done rs2 (j + 1) = rs3.set j (less q r1 (scale q r2 e1)) := by rw [HC.out, if_neg (by intro h; rcases h with h | h; exact hjd h; exact hz h)]
                        have HC1 := Lib.hid hc1
                        have hne : j ≠ st.done := hjd
                        have HNE := Lib.hid hne
                        have hll : (less q r1 (scale q r2 e1)).length = u + 1 := by rw [less_length]; exact HRJ.out
                        have HLL := Lib.hid hll
                        have hel2 : elemB q (scale q r2 e1) = true := (elemB_iff _ _).2 (scale_elem (by omega) _ _)
                        have hls : (scale q r2 e1).length = u + 1 := by rw [scale_length]; exact HRD.out
                        have HLS := Lib.hid hls
                        clear hc1 hz hjd hne hll hls
                        go_wp2
                        refine Lex.wp_region_lex (fun w' => w'.cell? ⟨w.heap.size, 0, none⟩ = some (.int .i64 q) ∧ w'.cell? ⟨R, j, none⟩ = some (.slice (some ⟨b1, o1, none⟩) (u + 1) c1) ∧ w'.cell? ⟨R, st.done, none⟩ = some (.slice (some ⟨b2, o2, none⟩) (u + 1) c2)) (fun j => j != 19)
                          [(0, true), (1, true), (2, true), (3, true), (4, true), (5, true), (6, true), (7, true), (8, true), (9, true), (10, true), (11, true), (12, true), (13, true), (14, true), (15, false), (16, false), (17, false), (18, true), (19, false)]
                          (by kernel_rfl) (by kernel_rfl) (by kernel_rfl) (by kernel_rfl) ⟨cF, cR, cD⟩ ?_
                        repeat (refine Lex.lex_take (v := ?_) rfl rfl (by rfl) (fun _ hS => ?_) ?_; rotate_left 1; (focus (go_split_ands; go_simp; with_reducible rfl)); simp only [List.setIfInBounds_toArray, List.set_cons_zero, List.set_cons_succ])
                        refine Lex.lex_do rfl ?_
                        go_wp2_with fail
                        refine (same_any _ _ (u + 1) _ (by omega) (by omega)).mono ?_
                        rintro e w2 ⟨v2, rfl, hown2, hb2⟩
                        have HI1a := (Ints.drew HI1.out).below hb2
                        have HI2a := (Ints.drew HI2.out).below hb2
                        have cR2 := (hb2.cell (p := ⟨R, j, none⟩) HM2.out.lt).trans cR
                        have cD2 := (hb2.cell (p := ⟨R, st.done, none⟩) HM2.out.lt).trans cD
                        have fR2 := (hb2.frozen (p := ⟨R, j, none⟩) HM2.out.lt).trans fR
                        have cF2 := (hb2.cell (p := ⟨w.heap.size, 0, none⟩) (by simp; omega)).trans cF
                        have hwc2 : wr.heap.size ≤ w2.heap.size := hb2.size
                        obtain ⟨g2, c2', hv2, hg2, hlt2⟩ := hown2.form (by simp)
                        simp only [List.length_map, List.length_range] at hv2
                        subst hv2
                        have HI3 := Lib.hid hown2.ints
                        have HB2 := Lib.hid hb2
                        clear hown2 hb2
                        go_wp2_with fail
                        refine Lex.lexQ_normal (fun _ => ⟨cF2, cR2, cD2⟩) ?_
                        refine Lex.lex_do rfl ?_
                        go_wp2_with fail
                        refine (each_mul w.heap.size q _ _ _ _ _ (u + 1) r2 _ ⟨hq1, hq2⟩ ⟨he1, he2⟩ cF2 hed HRD.out (by omega) HI2a HI3.out).mono ?_
                        rintro e w3 ⟨v3, rfl, hown3, hb3⟩
                        have HB3 := Lib.hid (HB2.out.trans (hb3.mono hwc2))
                        have cR3 := (HB3.out.cell (p := ⟨R, j, none⟩) HM2.out.lt).trans cR
                        have cD3 := (HB3.out.cell (p := ⟨R, st.done, none⟩) HM2.out.lt).trans cD
                        have fR3 := (HB3.out.frozen (p := ⟨R, j, none⟩) HM2.out.lt).trans fR
                        have cF3 := (HB3.out.cell (p := ⟨w.heap.size, 0, none⟩) (by simp; omega)).trans cF
                        have HI1b := HI1a.below hb3
                        have hwc3 : w2.heap.size ≤ w3.heap.size := hb3.size
                        rw [HLS.out] at hown3
                        obtain ⟨g3, c3, hv3, hg3, hlt3⟩ := hown3.form (by omega)
                        subst hv3
                        have HI4 := Lib.hid hown3.ints
                        clear hown3 hb3
                        go_wp2_with fail
                        refine Lex.lexQ_normal (fun _ => ⟨cF3, cR3, cD3⟩) ?_
                        refine Lex.lex_do rfl ?_
                        go_wp2_with fail
                        refine (each_sub w.heap.size q _ _ _ _ (u + 1) r1 (scale q r2 e1) _ ⟨hq1, hq2⟩ cF3 hej hel2 HRJ.out HLS.out (by omega) HI1b HI4.out).mono ?_
                        rintro e w4 ⟨v4, rfl, hown4, hb4⟩
                        have HB4 := Lib.hid (HB3.out.trans (hb4.mono (show wr.drew.heap.size ≤ w3.heap.size from Nat.le_trans hwc2 hwc3)))
                        have cR4 := (HB4.out.cell (p := ⟨R, j, none⟩) HM2.out.lt).trans cR
                        have cD4 := (HB4.out.cell (p := ⟨R, st.done, none⟩) HM2.out.lt).trans cD
                        have fR4 := (HB4.out.frozen (p := ⟨R, j, none⟩) HM2.out.lt).trans fR
                        have cF4 := (HB4.out.cell (p := ⟨w.heap.size, 0, none⟩) (by simp; omega)).trans cF
                        rw [HLL.out] at hown4
                        obtain ⟨g4, c4, hv4, hg4, hlt4⟩ := hown4.form (by omega)
                        subst hv4
                        have HO4 := Lib.hid hown4
                        clear hown4 hb4
                        go_wp2_with fail
                        refine Lex.lexQ_normal (fun _ => ⟨cF4, cR4, cD4⟩) ?_
                        repeat (refine Lex.lex_take (v := ?_) rfl rfl (by rfl) (fun _ hS => ?_) ?_; rotate_left 1; (focus (go_split_ands; go_simp; with_reducible rfl)); simp only [List.setIfInBounds_toArray, List.set_cons_zero, List.set_cons_succ])
                        refine Lex.lex_do rfl ?_
                        go_wp2_with fail
                        refine Lex.lexQ_normal (fun h => absurd h (by decide)) ?_
                        refine Lex.lex_nil ?_
                        have hBw : Below wr.heap.size wr w4 := below_of_drew HB4.out
                        have hM3 : Mat w4 [R, w.heap.size, w.heap.size + 1] R cap rs3 := HM2.out.below hBw
                        have hrow := rowAt_own (B := w3.heap.size) (r := less q r1 (scale q r2 e1)) (by rw [HLL.out]; exact HO4.out) (by rw [HLL.out]; omega) [R, w.heap.size, w.heap.size + 1] (by have := HM2.out.lt; simp; omega)
                        have hF : Fr [R] wr (w4.setCell ⟨R, j, none⟩ (.slice (some ⟨g4, 0, none⟩) (u + 1) c4)) := (fr_of_below hBw [R]).set _ (.inl (by simp)) _
                        have HE := Lib.hid (show Mat (w4.setCell ⟨R, j, none⟩ (.slice (some ⟨g4, 0, none⟩) (u + 1) c4)) [R, w.heap.size, w.heap.size + 1] R cap (cleared q k st.done rs2 (j + 1)) ∧ OwnI (w4.setCell ⟨R, j, none⟩ (.slice (some ⟨g4, 0, none⟩) (u + 1) c4)) (w.heap.size + 1) (.slice (some ⟨w.heap.size + 1, 0, none⟩) u u) u st.lead ∧ One (w4.setCell ⟨R, j, none⟩ (.slice (some ⟨g4, 0, none⟩) (u + 1) c4)) w.heap.size (.int .i64 q) 86 ∧ Fr [R] w (w4.setCell ⟨R, j, none⟩ (.slice (some ⟨g4, 0, none⟩) (u + 1) c4))
                          from ⟨by rw [HC1.out]; exact hM3.set hrow (by rw [HLC.out]; omega), hown.fr hF (fun k hk => by simp only [Value.ownBlock, Option.some.injEq] at hk; subst hk; simp; omega), ho.fr hF (by simp; omega), hfr.trans hF⟩)
                        clear cR cD cF fR cR2 cD2 fR2 cF2 cR3 cD3 fR3 cF3 cR4 cD4 fR4 cF4 hM3 hrow hF hBw HI1a HI2a HI1b
                        go_wp2
                        go_roundw
                        case rel => exact ⟨j + 1, by omega, by go_num, HE.out⟩
                        case measure => simp [intOf]; omega
                  · obtain rfl : j = rs.length := by omega
                    have hkl : k < st.lead.length := by rw [F4.out]; exact hlt
                    obtain ⟨y0, hy0⟩ := hown.cell (k := k) hlt
                    have hfz := hown.frozen k
                    have hF : ∀ y, Fr [R] w (wr.setCell ⟨w.heap.size + 1, k, none⟩ y) := fun y => hfr.set _ (.inr (by simp)) _
                    have hF2 : ∀ y, Fr [w.heap.size + 1] wr (wr.setCell ⟨w.heap.size + 1, k, none⟩ y) := fun y => (Fr.refl _ _).set _ (.inl (by simp)) _
                    have hd9 : st.done ≤ 1000 := by omega
                    go_wp2
                    go_roundw
                    case rel =>
                      refine ⟨k + 1, by omega, by go_num, by rw [HST.out, HSTEP.out]; go_num, ?_, ?_, ?_, hF _⟩
                      · rw [HST.out, HSTEP.out]
                        exact hM.fr (hF2 _) (by simp) (by simp; omega)
                      · rw [HST.out, HSTEP.out]
                        exact hown.set k _
                      · exact ho.setOther _ _ (by simp)
                    case measure => simp [intOf]; omega
        · obtain rfl : a = rs.length := by omega
          have hP : pivot st.rs k (rs.length - st.done) st.done = rs.length := by rw [HP.out]; simp [pivot]
          have hs : step (pwf q) q st k = st := by unfold step; rw [F1.out]; simp [hP]
          have HS := Lib.hid hs
          clear hP hs
          go_wp2
          go_roundw
          case rel => exact ⟨k + 1, by omega, by go_num, by rw [HST.out, HS.out], by rw [HST.out, HS.out]; exact hM, by rw [HST.out, HS.out]; exact hown, ho, hfr⟩
          case measure => simp [intOf]; omega
    · obtain rfl : k = u := by omega
      clear HST
      generalize steps (pwf q) q rs k k = st at *
      have F1 := Lib.hid f1
      have F4 := Lib.hid f4
      clear f1 f4
      have cF := ho.cell
      have hcap : rs.length ≤ cap := by have := hM.2.1; rw [F1.out] at this; exact this
      have hRw := hM.lt
      have hwr := (hown.lt (w.heap.size + 1) (by simp [Value.ownBlock])).2
      -- the rows that are left over
      have hrow : ∀ i, st.done ≤ i → i < rs.length → ∃ b o c, wr.cell? ⟨R, i, none⟩ = some (.slice (some ⟨b, o, none⟩) (k + 1) c) ∧ wr.cell? ⟨b, o + k, none⟩ = some (.int .i64 (el st.rs i k)) := by
        intro i _ hi
        have hgi := F2.out.get (i := i) (by rw [F1.out]; exact hi)
        have hri : (st.rs.getD i []).length = k + 1 := F2.out.row (by rw [F1.out]; exact hi)
        obtain ⟨b, o, c, h1, _, _, h4⟩ := hM.get hgi
        obtain ⟨_, _, hrfl, _, h5⟩ := h4.get (k := k) (by omega)
        cases hrfl
        refine ⟨b, o, c, by rw [h1, hri], ?_⟩
        rw [h5]
        unfold el
        simp [List.getD, show k < (st.rs[i]?.getD []).length by have := hri; simp [List.getD] at this ⊢; omega]
      have HROW := Lib.hid hrow
      clear hrow
      have hd1 : (0 : Int) ≤ (st.done : Int) := by omega
      have hd2 : (st.done : Int) ≤ (rs.length : Int) := by omega
      have hd3 : (st.done : Int) ≤ (cap : Int) := by omega
      have hd4 : (rs.length : Int) ≤ (cap : Int) := by omega
      have hd5 : st.done ≤ cap := by omega
      go_upto_region 23 with (fail)
      go_cut [133, 134, 135] (fun s t i wx => ∃ A c, s = .slice A (rs.length - st.done) c ∧ (st.done < rs.length → A = some ⟨R, st.done, none⟩) ∧ t = .int .i64 ((rs.length - st.done : Nat) : Int) ∧ i = .int .i64 0 ∧ wx = wr)
      case first =>
        by_cases hcd : cap = st.done
        · go_wp2_with fail
          go_meet
          exact ⟨_, _, rfl, fun h => absurd h (by omega), rfl, rfl, rfl⟩
        · go_wp2_with fail
          go_meet
          exact ⟨_, _, rfl, fun _ => by simp, rfl, rfl, rfl⟩
      case rest =>
        obtain ⟨A, c, rfl, hA, rfl, rfl, rfl⟩ := hcut
        have HA := Lib.hid hA
        clear hA hd1 hd2 hd3 hd4 hd5
        go_wp2
        go_loop [135] (fun i => ∃ j : Nat, j ≤ rs.length - st.done ∧ i = .int .i64 j ∧ ∀ i, st.done ≤ i → i < st.done + j → el st.rs i k = 0) (fun i => rs.length - st.done - (intOf i).toNat)
        case atStart => exact ⟨0, by omega, rfl, by intro i h1 h2; omega⟩
        case round =>
          obtain ⟨j, hj, rfl, hall⟩ := hrel
          have HALL := Lib.hid hall
          clear hall
          by_cases hjl : j < rs.length - st.done
          · obtain rfl := HA.out (by omega)
            obtain ⟨b, o, c2, c1, c3⟩ := HROW.out (st.done + j) (by omega) (by omega)
            have j1 : (0 : Int) ≤ (k : Int) := by omega
            have j2 : (k : Int) < (k : Int) + 1 := by omega
            by_cases hz : el st.rs (st.done + j) k = 0
            · rw [hz] at c3
              have HZ := Lib.hid hz
              clear hz
              go_wp2
              go_round
              case rel => exact ⟨j + 1, by omega, by go_num, fun i h1 h2 => by
                by_cases e : i = st.done + j
                · rw [e]; exact HZ.out
                · exact HALL.out i h1 (by omega)⟩
              case measure => simp [intOf]; omega
            · have hok := okOf_false (st := st) (u := k) (i := st.done + j) (by omega) (by rw [F1.out]; omega) hz
              have HOK := Lib.hid hok
              have hzb : (el st.rs (st.done + j) k == 0) = false := by simpa using hz
              have hzb2 : (el st.rs (st.done + j) k != 0) = true := by simpa using hz
              clear hok hz
              go_wp2
              go_ret2
              exact ⟨.slice none 0 0, by rw [HOK.out]; rfl, hfr, fun h => absurd (HOK.out.symm.trans h) (by simp), fun _ => rfl⟩
          · have hok : okOf st k = true := okOf_true (fun i h1 h2 => HALL.out i h1 (by rw [F1.out] at h2; omega))
            have HOK := Lib.hid hok
            clear hok
            go_wp2_with (at_make; refine wpList_makeInts _ rfl _ _ rfl w.heap.size _ _ k rfl rfl rfl rfl (by omega) (by omega) ?_)
            intro wz hownz hgrowz
            have hFz : Fr [] wc wz := fr_of_grown hgrowz (by intro k hk; cases hk)
            have hMz : Mat wz [R, w.heap.size, w.heap.size + 1, wc.heap.size] R cap st.rs := (hM.mono (Y := [R, w.heap.size, w.heap.size + 1, wc.heap.size]) (by intro k hk; simp; omega) (by simp)).fr hFz (by simp) (by simp)
            have hfrz0 : w.heap.size ≤ wc.heap.size := by omega
            have hleadz := hown.fr hFz (by simp)
            have hfrz : Fr [R] w wz := hfr.trans (hFz.mono (by simp))
            have hwz : wc.heap.size < wz.heap.size := (hownz.lt wc.heap.size (by simp [Value.ownBlock])).2
            obtain ⟨f, hf⟩ : ∃ f : Nat → Int, f = fun j => if 0 < st.lead.getD j 0 then el st.rs (st.lead.getD j 0 - 1).toNat k else 0 := ⟨_, rfl⟩
            have hout : outOf st k = (List.range k).map f := by rw [hf]; rfl
            have HF := Lib.hid hf
            have HO := Lib.hid hout
            have h0 : OwnI wz w.heap.size (.slice (some ⟨wc.heap.size, 0, none⟩) k k) k (fillTo f k 0) := by rw [fillTo_zero]; exact hownz
            clear hf hout hgrowz hownz hM hown ho hfr hFz
            go_wp2
            go_loopw [149] (fun i wx => ∃ j : Nat, j ≤ k ∧ i = .int .i64 j ∧ OwnI wx w.heap.size (.slice (some ⟨wc.heap.size, 0, none⟩) k k) k (fillTo f k j) ∧ OwnI wx (w.heap.size + 1) (.slice (some ⟨w.heap.size + 1, 0, none⟩) k k) k st.lead ∧ Mat wx [R, w.heap.size, w.heap.size + 1, wc.heap.size] R cap st.rs ∧ Fr [R] w wx ∧ Fr [wc.heap.size] wz wx) (fun i _ => k - (intOf i).toNat)
            case atStart => exact ⟨0, by omega, rfl, h0, hleadz, hMz, hfrz, Fr.refl _ _⟩
            case round =>
              clear h0 hleadz hMz hfrz
              obtain ⟨j, hj, rfl, h0, hlead, hM, hfr, hfz⟩ := hrel
              by_cases hjl : j < k
              · have hlj := hlead.get (k := j) (by rw [F4.out]; exact hjl)
                have hljb := F5.out j _ (List.getElem?_eq_getElem (show j < st.lead.length by rw [F4.out]; exact hjl))
                have hfj : f j = if 0 < st.lead[j]'(by rw [F4.out]; exact hjl) then el st.rs (st.lead[j]'(by rw [F4.out]; exact hjl) - 1).toNat k else 0 := by
                  rw [HF.out]; simp [List.getD, show j < st.lead.length by rw [F4.out]; exact hjl]
                obtain ⟨y0, hy0⟩ := h0.cell (k := j) hjl
                have hfz0 := h0.frozen j
                obtain ⟨r, hr⟩ : ∃ r, st.lead[j]'(by rw [F4.out]; exact hjl) = r := ⟨_, rfl⟩
                rw [hr] at hlj hljb hfj
                clear hr
                obtain ⟨hb1, hb2⟩ := hljb
                have hlt : wc.heap.size < wr.heap.size := Nat.lt_of_lt_of_le hwz hfz.size
                by_cases hrp : 0 < r
                · obtain ⟨p, rfl⟩ : ∃ p : Nat, r = (p : Int) + 1 := ⟨(r - 1).toNat, by omega⟩
                  have hp : p < rs.length := by omega
                  rw [if_pos hrp] at hfj
                  have hfj2 : f j = el st.rs p k := by rw [hfj]; congr 1; omega
                  have hgi := F2.out.get (i := p) (by rw [F1.out]; exact hp)
                  have hri : (st.rs.getD p []).length = k + 1 := F2.out.row (by rw [F1.out]; exact hp)
                  obtain ⟨b, o, c, c1, _, _, h4⟩ := hM.get hgi
                  obtain ⟨_, _, hrfl, _, c3⟩ := h4.get (k := k) (by omega)
                  cases hrfl
                  have hel : (st.rs.getD p [])[k]'(by omega) = el st.rs p k := by unfold el; simp [List.getD, show k < (st.rs[p]?.getD []).length by have := hri; simp [List.getD] at this ⊢; omega]
                  rw [hel] at c3
                  clear hel
                  rw [hri] at c1
                  generalize el st.rs p k = y at *
                  have HFJ := Lib.hid hfj2
                  have HGI := Lib.hid hgi
                  have HRI := Lib.hid hri
                  clear hfj hfj2 hgi hri
                  have j1 : (0 : Int) ≤ (k : Int) := by omega
                  have j2 : (k : Int) < (k : Int) + 1 := by omega
                  have j3 : (0 : Int) ≤ (p : Int) := by omega
                  have j4 : (p : Int) < (rs.length : Int) := by omega
                  have j5 : (p : Int) + 1 - 1 = (p : Int) := by omega
                  go_wp2
                  go_roundw
                  case rel =>
                    have hF2 : ∀ S, wc.heap.size ∈ S → Fr S wr (wr.setCell ⟨wc.heap.size, j, none⟩ (.int .i64 y)) := fun S h => (Fr.refl _ _).set _ (.inl h) _
                    refine ⟨j + 1, by omega, by go_num, ?_, hlead.fr (hF2 [wc.heap.size] (by simp)) (fun k hk => by simp only [Value.ownBlock, Option.some.injEq] at hk; subst hk; simp; omega), hM.fr (hF2 [wc.heap.size] (by simp)) ?_ ?_, ?_, ?_⟩
                    · rw [← fillTo_set, HFJ.out]; exact h0.set j _
                    · intro k hk _; simp at hk; subst hk; simp
                    · simp; omega
                    · exact hfr.set _ (.inr (by simp; have := hfrz0; omega)) _
                    · exact hfz.set _ (.inl (by simp)) _
                  case measure => simp [intOf]; omega
                · rw [if_neg hrp] at hfj
                  have HFJ := Lib.hid hfj
                  clear hfj
                  go_wp2
                  go_roundw
                  case rel => exact ⟨j + 1, by omega, by go_num, by rw [← fillTo_skip _ _ _ HFJ.out]; exact h0, hlead, hM, hfr, hfz⟩
                  case measure => simp [intOf]; omega
              · obtain rfl : j = k := by omega
                go_wp2
                go_ret2
                refine ⟨.slice (some ⟨wc.heap.size, 0, none⟩) j j, by rw [HOK.out]; rfl, hfr, fun _ => ?_, fun h => absurd (HOK.out.symm.trans h) (by simp)⟩
                rw [HO.out, ← fillTo_all]
                exact h0
end Go.Proofs.Ytneliejncfncdaa
