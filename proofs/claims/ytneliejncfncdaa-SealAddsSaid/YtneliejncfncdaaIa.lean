/- The reference's Members. -/
import Derived.Test.YtneliejncfncdaaX
import Derived.Test.YtneliejncfncdaaHg
namespace Go.Proofs.Ytneliejncfncdaa
open Go.RowKit

theorem ownI_lit (w : World) (base : Nat) (hb : base ≤ w.heap.size) : OwnI (w.alloc (.cells #[] 3)) base (.slice (some ⟨w.heap.size, 0, none⟩) 0 0) 0 [] :=
  World.ownsRow_lit w #[] 0 hb (by simp [maxLen]) rfl

theorem Fr.grown {S : List Nat} {a b c : World} {r : Option Nat} (h : Fr S a b) (g : b.grownBy c r) (hr : ∀ k, r = some k → k ∈ S ∨ a.heap.size ≤ k) : Fr S a c :=
  ⟨g.os.trans h.os, g.tape.trans h.tape, g.output.trans h.output, Nat.le_trans h.size g.size, fun k hk hn => (g.block k (Nat.lt_of_lt_of_le hk h.size) fun e => by
    rcases hr k e.symm with h' | h'
    · exact hn h'
    · omega).trans (h.block k hk hn)⟩

set_option maxRecDepth 100000 in
set_option maxHeartbeats 1600000 in
theorem refMembers_own (q item : Int) (t n : Nat) (w : World) (hq : 2 ≤ q ∧ q ≤ 31) (ht : t ≤ 31) (hn : n ≤ 31) (hi : 0 ≤ item ∧ item ≤ 1000000) :
    Calls Try.prog 48 #[pools q t n, .int .i64 item] w (RetOwn (membersM q item t n) w) := by
  obtain ⟨hq1, hq2⟩ := hq
  obtain ⟨hi1, hi2⟩ := hi
  have hin : ∃ W : World, W = ((w.alloc (.cells #[.int .i64 q, .int .i64 t, .int .i64 n] 35)).alloc (.cells #[] 3)).alloc (.cells #[] 3) := ⟨_, rfl⟩
  obtain ⟨W0, hW0⟩ := hin
  have hd0 : OwnI W0 (w.heap.size + 1) (.slice (some ⟨w.heap.size + 1, 0, none⟩) 0 0) 0 [] := by
    rw [hW0]
    have := (ownI_lit (w.alloc (.cells #[.int .i64 q, .int .i64 t, .int .i64 n] 35)) (w.heap.size + 1) (by simp)).alloc (.cells #[] 3)
    simpa using this
  have ho0 : OwnI W0 (w.heap.size + 1) (.slice (some ⟨w.heap.size + 2, 0, none⟩) 0 0) 0 [] := by
    rw [hW0]
    have := ownI_lit ((w.alloc (.cells #[.int .i64 q, .int .i64 t, .int .i64 n] 35)).alloc (.cells #[] 3)) (w.heap.size + 1) (by simp)
    simpa using this
  have hB0 : Below (w.heap.size + 1) (w.alloc (.cells #[.int .i64 q, .int .i64 t, .int .i64 n] 35)) W0 := by
    rw [hW0]
    exact ((Below.refl _ _).alloc (by simp) _).alloc (by simp) _
  have HW := Lib.hid hW0
  clear hW0
  go_enter Try.func48, Try.ntmps48
  go_wp2
  rw [← HW.out]
  have hDO : (Value.slice (some ⟨w.heap.size + 1, 0, none⟩) 0 0).ownBlock ≠ (Value.slice (some ⟨w.heap.size + 2, 0, none⟩) 0 0).ownBlock := by simp [Value.ownBlock]
  go_loopw [1, 5, 7] (fun s d i wr => ∃ k : Nat, k ≤ t ∧ i = .int .i64 k ∧ s = .int .i64 (item / q ^ k) ∧ OwnI wr (w.heap.size + 1) d k (digs q item k) ∧
      OwnI wr (w.heap.size + 1) (.slice (some ⟨w.heap.size + 2, 0, none⟩) 0 0) 0 [] ∧ d.ownBlock ≠ some (w.heap.size + 2) ∧
      Below (w.heap.size + 1) (w.alloc (.cells #[.int .i64 q, .int .i64 t, .int .i64 n] 35)) wr) (fun _ _ i _ => t - (intOf i).toNat)
  case atStart => exact ⟨0, by omega, rfl, by simp, hd0, ho0, hDO, hB0⟩
  case round =>
    clear hd0 ho0 hDO hB0
    obtain ⟨k, hk, rfl, rfl, hown, hout, hdo, hbl⟩ := hrel
    have c0 : wr.cell? ⟨w.heap.size, 0, none⟩ = some (.int .i64 q) := (hbl.cell (by simp)).trans (by simp [go_sem])
    have c1 : wr.cell? ⟨w.heap.size, 1, none⟩ = some (.int .i64 t) := (hbl.cell (by simp)).trans (by simp [go_sem])
    have c2 : wr.cell? ⟨w.heap.size, 2, none⟩ = some (.int .i64 n) := (hbl.cell (by simp)).trans (by simp [go_sem])
    have hsz : w.heap.size + 1 ≤ wr.heap.size := by have := hbl.size; simp at this; omega
    have hos : w.heap.size + 2 < wr.heap.size := (hout.lt _ rfl).2
    have hds := digs_succ q item k
    have hdiv : item / q ^ k / q = item / q ^ (k + 1) := by
      rw [Int.pow_succ, Int.ediv_ediv_of_nonneg]
      have := pow_bd (q := q) (by omega) k
      omega
    have hlo : 0 ≤ item / q ^ k := Int.ediv_nonneg hi1 (by have := pow_bd (q := q) (by omega) k; omega)
    have hhi : item / q ^ k ≤ 1000000 := by have := Int.ediv_le_self (q ^ k) hi1; omega
    generalize item / q ^ k = s at *
    have HD := Lib.hid hds
    have HV := Lib.hid hdiv
    have HDO := Lib.hid hdo
    clear hds hdiv hdo
    by_cases hlt : k < t
    · go_wp2_with (at_builtin; refine wpList_int _ rfl _ _ rfl (w.heap.size + 1) _ k (digs q item k) rfl (hown.alloc _) wr.heap.size (s % q) rfl (heap_alloc_new wr _) (by omega) (by simp; omega) (wr.heap.size + 1) (by simp) ?_)
      intro g cap w1 hown' hgrow hat hlt1
      have hb1 := (hbl.alloc (o := .cells #[.int .i64 (s % q)] 3) hsz).grown hgrow (by simp; omega) (fun g hg => (hown.lt g hg).1)
      have hout1 : OwnI w1 (w.heap.size + 1) (.slice (some ⟨w.heap.size + 2, 0, none⟩) 0 0) 0 [] := by
        refine (hout.alloc _).keep fun k hk => hgrow.block k ?_ ?_
        · cases hk; simp; omega
        · cases hk; exact fun h => HDO.out h.symm
      have hdo1 : (Value.slice (some ⟨g, 0, none⟩) (k + 1) cap).ownBlock ≠ some (w.heap.size + 2) := by
        intro h
        simp only [Value.ownBlock, Option.some.injEq] at h
        rcases hat with h' | h'
        · exact HDO.out (h'.trans (by rw [h]))
        · omega
      clear hown hout hbl hgrow hat c0 c1 c2
      have c0 : w1.cell? ⟨w.heap.size, 0, none⟩ = some (.int .i64 q) := (hb1.cell (by simp)).trans (by simp [go_sem])
      have HDO1 := Lib.hid hdo1
      clear hdo1
      go_wp2
      go_roundw
      case rel => exact ⟨k + 1, by omega, by go_num, by rw [HV.out], by rw [HD.out]; exact hown', hout1, HDO1.out, hb1⟩
      case measure => simp [intOf]; omega
    · obtain rfl : k = t := by omega
      obtain ⟨A, c, hv, hc1, hc2, hc3, hA⟩ := hown.sli
      have hdl := digs_length q item k
      subst hv
      have hde := digs_elem (q := q) (item := item) (by omega) k
      have hAb : ∀ b, A = some b → b.block ∉ [w.heap.size + 2] := by
        rintro b rfl hb
        simp at hb
        exact HDO.out (by simp [Value.ownBlock, hb])
      generalize hD : digs q item k = D at *
      have HDD := Lib.hid hD
      clear hD
      subst hdl
      clear hown hlo hhi HV HD HDO
      go_wp2
      have hsz2 : w.heap.size < wr.heap.size := by omega
      have hqB : wr.cell? ⟨w.heap.size, 0, none⟩ = some (.int .i64 q) := c0
      have hnB : wr.cell? ⟨w.heap.size, 2, none⟩ = some (.int .i64 n) := c2
      have hbl2 := hbl
      clear c0 c1 c2 hbl
      obtain ⟨wo, rfl⟩ : ∃ wo, wo = wr := ⟨_, rfl⟩
      go_loopw [6, 8] (fun v i wr => ∃ k : Nat, k ≤ n ∧ i = .int .i64 k ∧ OwnI wr (w.heap.size + 1) v k (membersD q D k) ∧
        (∀ g, v.ownBlock = some g → g = w.heap.size + 2 ∨ wo.heap.size ≤ g) ∧ Fr [w.heap.size + 2] wo wr) (fun _ i _ => n - (intOf i).toNat)
      case atStart => exact ⟨0, by omega, rfl, hout, by intro g hg; cases hg; exact .inl rfl, Fr.refl _ _⟩
      case round =>
        clear hout
        obtain ⟨k, hk, rfl, hown, hob, hfr⟩ := hrel
        have hAr := At.fr hA hfr hAb
        have hAr : Ints wr A D := hAr
        have c0 : wr.cell? ⟨w.heap.size, 0, none⟩ = some (.int .i64 q) := (World.cell?_of_block (hfr.block w.heap.size hsz2 (by simp))).trans hqB
        have c2 : wr.cell? ⟨w.heap.size, 2, none⟩ = some (.int .i64 n) := (World.cell?_of_block (hfr.block w.heap.size hsz2 (by simp))).trans hnB
        have hsz := hfr.size
        have hms := membersD_succ q D k
        have HM := Lib.hid hms
        have HOB := Lib.hid hob
        have HAB := Lib.hid hAb
        have hv0 := hv_bd (q := q) (x := (k : Int)) (by omega) D
        obtain ⟨hv1, hv2⟩ := hv0
        have hkq1 : 0 ≤ (k : Int) * q := Int.mul_nonneg (by omega) (by omega)
        have hkq2 : (k : Int) * q ≤ 31 * 31 := Int.mul_le_mul (by omega) hq2 (by omega) (by omega)
        clear hms hA hqB hnB hob hAb
        have HB2 := Lib.hid hbl2
        have HFR := Lib.hid hfr
        clear hbl2 hfr
        by_cases hlt : k < n
        · have lw : w.heap.size < wr.heap.size := by omega
          have e1 : IntKind.i64.wrap ((k : Int) * q) = (k : Int) * q := IntWalk.i64_in _ (by omega)
          have e2 : IntKind.i64.wrap ((k : Int) * q + hv q k D) = (k : Int) * q + hv q k D := IntWalk.i64_in _ (by omega)
          have c34 : ∀ W, Ints W A D → Calls Try.prog 34 #[.int .i64 q, .slice A D.length c, .int .i64 k] W fun e w' => e = .returned (.int .i64 (hv q k D)) ∧ W = w' := fun W h => (refValue_any q k A c D.length D W ⟨hq1, hq2⟩ ⟨by omega, by omega⟩ hde h rfl (by omega)).mono fun e w' h => ⟨h.1, h.2.symm⟩
          generalize hv q k D = z at *
          go_wp2
          go_region_held3 (fun w' => w'.cell? ⟨w.heap.size, 0, none⟩ = some (.int .i64 q)) (first | go_keep | (rw [hgrow.cell_far _ (by simp; omega) (by intro h; have := HOB.out _ h.symm; simp at this; omega)]; assumption))
            (first | (go_at_call 34; refine (c34 _ ?_).mono ?_; (first | exact hAr | exact hAr.drewN _ | exact hAr.drew); rintro e w' ⟨rfl, rfl⟩) | (refine step_int _ (by rfl) _ _ (by rfl) (w.heap.size + 1) _ k (membersD q D k) (by rfl) ((hown.alloc _).drewN _) wr.heap.size ((k : Int) * q + z) (by rfl) (heap_alloc_new wr _) (by omega) (by simp; omega) (wr.heap.size + 1) (by simp) ?_; intro gg cap w1 hown1 hgrow hat hlt1))
          have hfr1 := ((HFR.out.alloc (.cells #[.int .i64 ((k : Int) * q + z)] 3)).drew).grown hgrow (fun g hg => by rcases HOB.out g hg with h | h; exact .inl (by simp [h]); exact .inr h)
          have hob1 : ∀ g, (Value.slice (some ⟨gg, 0, none⟩) (k + 1) cap).ownBlock = some g → g = w.heap.size + 2 ∨ wo.heap.size ≤ g := by
            intro g hg
            simp only [Value.ownBlock, Option.some.injEq] at hg
            subst hg
            rcases hat with h | h
            · exact HOB.out _ h
            · right; omega
          have HOB1 := Lib.hid hob1
          have HF1 := Lib.hid hfr1
          clear hgrow hown hat HOB hfr1 hob1
          go_wp2
          go_roundw
          case rel => exact ⟨k + 1, by omega, by go_num, by rw [HM.out]; exact hown1, HOB1.out, HF1.out⟩
          case measure => simp [intOf]; omega
        · obtain rfl : k = n := by omega
          have hsl := hown.mono (B := w.heap.size) (by omega)
          have hbf := (HB2.out.trans (HFR.out.belowOf (B := w.heap.size + 1) (by omega) (by simp))).mono (B' := w.heap.size) (by omega)
          go_wp2
          go_ret
          exact ⟨_, rfl, by unfold membersM; rw [HDD.out, membersD_length]; exact hsl, ((Below.refl w.heap.size w).alloc (Nat.le_refl _) _).trans hbf⟩
end Go.Proofs.Ytneliejncfncdaa
