/- seal.Read: where the arguments are good. -/
import Derived.Test.YtneliejncfncdaaQ
namespace Go.Proofs.Ytneliejncfncdaa
open Go.RowKit

section
variable (q : Int) (A : Option Addr) (c n k t : Nat) (word : List Int) (w : World) (Bq Bw Bk Bm Bn : Nat)

def RdOk (e : Ending) (w w' : World) : Prop :=
  e = .returned (.tuple #[]) ∧ Fr [Bm, Bn] w w' ∧ ∃ v, One w' Bm v 22 ∧ OwnI w' w.heap.size v k (mendP q word k t) ∧ One w' Bn (.int .i64 (wrongs q (mendP q word k t) word word.length : Nat)) 3
def RdNo (e : Ending) (w w' : World) : Prop := e = .panicked (refusal 6) ∧ Fr [] w w' ∧ True
def RdRet (e : Ending) (w' : World) : Prop :=
  if mendOk q word k t && decide (wrongs q (mendP q word k t) word word.length ≤ t) then RdOk q k t word Bm Bn e w w' else RdNo e w w'

set_option maxRecDepth 100000 in
set_option maxHeartbeats 3200000 in
theorem rd1_run (hq : One w Bq (.int .i64 q) 3) (hp : One w Bw (.slice A word.length c) 22) (hk : One w Bk (.int .i64 k) 3) (hm : ∃ x, One w Bm x 22) (hn : ∃ x, One w Bn x 3) (hA : Ints w A word) (h : primeB q = true) (h2 : elemB q word = true)
    (hmn : Bm ≠ Bn) (hk1 : 1 ≤ k) (hkn : k ≤ word.length) (hlq : (word.length : Int) ≤ q) (ht : t = (word.length - k) / 2) :
    Calls Try.prog 57 #[.pointer (some ⟨Bq, 0, none⟩), .pointer (some ⟨Bw, 0, none⟩), .pointer (some ⟨Bk, 0, none⟩), .pointer (some ⟨Bm, 0, none⟩), .pointer (some ⟨Bn, 0, none⟩)] w (RdRet q k t word w Bm Bn) := by
  have cq := hq.cell
  have cp := hp.cell
  have ck := hk.cell
  have lq := hq.lt
  have lp := hp.lt
  have lk := hk.lt
  obtain ⟨xm, hm⟩ := hm
  obtain ⟨xn, hn⟩ := hn
  have hpr := prime_bd h
  obtain ⟨hp1, hp2⟩ := hpr
  have e1 : decide ((1 : Int) ≤ (k : Int)) = true := by simp; omega
  have e2 : decide ((k : Int) ≤ (word.length : Int)) = true := by simp; omega
  have e3 : decide ((word.length : Int) ≤ q) = true := by simpa using hlq
  have htd : ((word.length : Int) - (k : Int)).tdiv 2 = (t : Int) := by
    rw [Int.tdiv_eq_ediv_of_nonneg (by omega)]
    omega
  have hw1 : IntKind.i64.wrap ((word.length : Int) - (k : Int)) = (word.length : Int) - (k : Int) := IntWalk.i64_in _ (by omega)
  have hw2 : IntKind.i64.wrap (t : Int) = (t : Int) := IntWalk.i64_in _ (by omega)
  have htb : 2 * t + k ≤ word.length := by omega
  have HT := Lib.hid htb
  have HK := Lib.hid hkn
  have HQ := Lib.hid hlq
  clear ht hkn hlq htb
  obtain ⟨ws, rfl⟩ : ∃ ws, ws = w := ⟨_, rfl⟩
  have c58 : ∀ W, Calls Try.prog 58 #[.int .i64 q] W fun e w' => e = .returned (.int .i64 q) ∧ W = w' := fun W => (over_yes _ _ h).mono fun e w' h => ⟨h.1, h.2.symm⟩
  have c59 : Calls Try.prog 59 #[.int .i64 q, .slice A word.length c] ws fun e w' => e = .returned (.tuple #[]) ∧ ws = w' := (elements_yes q _ _ word _ h2 hA (by have := HQ.out; omega)).mono fun e w' h => ⟨h.1, h.2.symm⟩
  have c60 : Calls Try.prog 60 #[.bool true] ws fun e w' => e = .returned (.tuple #[]) ∧ ws = w' := (must_yes _).mono fun e w' h => ⟨h.1, h.2.symm⟩
  have c61 : Calls Try.prog 61 #[.int .i64 q, .slice A word.length c, .int .i64 k, .int .i64 t] ws (RetMend q word k t ws) := mended_any q k t word.length A c word ws ⟨hp1, hp2⟩ h2 hA rfl (by have := HQ.out; omega) hk1 HT.out
  go_enter Try.func57, Try.ntmps57
  go_wp2_with (first | (go_at_call 58; refine (c58 _).mono ?_; rintro e w' ⟨rfl, rfl⟩) | (go_at_call 59; refine c59.mono ?_; rintro e w' ⟨rfl, rfl⟩) | (go_at_call 60; refine c60.mono ?_; rintro e w' ⟨rfl, rfl⟩))
  refine c61.mono ?_
  rintro e w1 ⟨v1, rfl, hb1, hown⟩
  have cp1 := (hp.below hb1 lp).cell
  have lp1 := (hp.below hb1 lp).lt
  have hA1 := Ints.below hA hb1
  have hm1 := hm.below hb1 hm.lt
  have hn1 := hn.below hb1 hn.lt
  have hlm := hm.lt
  have hln := hn.lt
  clear c58 c59 c60 c61 cq cp ck lq lp lk hq hk hA hm hn e1 e2 e3 htd hw1 hw2
  have hnw : word.length ≤ 31 := by have := HQ.out; omega
  generalize hN : word.length = N at *
  have HN := Lib.hid hN
  clear hN
  cases hok : mendOk q word k t with
  | false =>
    have hR : ∀ e w', RdNo e ws w' → RdRet q k t word ws Bm Bn e w' := fun e w' h => by unfold RdRet; rw [hok]; exact h
    clear hown
    go_wp2_with fail
    go_loop [9, 47] (fun s i => ∃ m : Nat, m ≤ N ∧ i = .int .i64 m ∧ s = .int .i64 0) (fun _ i => N - (intOf i).toNat)
    case atStart => exact ⟨0, by omega, rfl, rfl⟩
    case round =>
      obtain ⟨m, hm, rfl, rfl⟩ := hrel
      by_cases hmn2 : m < N
      · obtain ⟨b, off, rfl, hblt, hcell⟩ := hA1.get (k := m) (by rw [HN.out]; exact hmn2)
        go_wp2
        go_round
        case rel => exact ⟨m + 1, by omega, by go_num, rfl⟩
        case measure => simp [intOf]; omega
      · obtain rfl : m = N := by omega
        go_wp2
        exact ⟨rfl, hR _ _ ⟨rfl, fr_of_below hb1 _, trivial⟩⟩
  | true =>
    have ho := hown hok
    have hml := mendP_length q word k t
    have hme := mendP_elem hp1 word h2 k t
    obtain ⟨g, cap, rfl, hg, hg'⟩ := ho.form (by omega)
    have hIp := ho.ints
    have hRy : ∀ e w', wrongs q (mendP q word k t) word word.length ≤ t → RdOk q k t word Bm Bn e ws w' → RdRet q k t word ws Bm Bn e w' := fun e w' h1 h => by unfold RdRet; rw [hok, decide_eq_true h1]; exact h
    have hRn : ∀ e w', ¬ wrongs q (mendP q word k t) word word.length ≤ t → RdNo e ws w' → RdRet q k t word ws Bm Bn e w' := fun e w' h1 h => by unfold RdRet; rw [hok, decide_eq_false h1]; exact h
    unfold RdOk at hRy
    simp only [HN.out] at hRy hRn
    clear hown
    generalize mendP q word k t = p at *
    have HML := Lib.hid hml
    have HRY := Lib.hid hRy
    have HRN := Lib.hid hRn
    clear hml hRy hRn
    go_wp2_with fail
    go_loopw [9, 47] (fun s i wx => ∃ m : Nat, m ≤ N ∧ i = .int .i64 m ∧ s = .int .i64 (wrongs q p word m : Nat) ∧ ∃ nd, wx = w1.drewN nd) (fun _ i _ => N - (intOf i).toNat)
    case atStart => exact ⟨0, by omega, rfl, rfl, 0, rfl⟩
    case round =>
      obtain ⟨m, hm, rfl, rfl, nd, rfl⟩ := hrel
      have hwl := wrongs_le q p word m
      by_cases hmn2 : m < N
      · obtain ⟨b, off, rfl, hblt, hcell⟩ := hA1.get (k := m) (by rw [HN.out]; exact hmn2)
        have hyd : word.getD m 0 = word[m]'(by rw [HN.out]; exact hmn2) := by simp [List.getD, show m < word.length by rw [HN.out]; exact hmn2]
        generalize word[m]'(by rw [HN.out]; exact hmn2) = y at *
        have hws : wrongs q p word (m + 1) = wrongs q p word m + (if hv q m p = y then 0 else 1) := by rw [wrongs, hyd]
        have cv : ∀ W, Ints W (some ⟨g, 0, none⟩) p → Calls Try.prog 62 #[.int .i64 q, .slice (some ⟨g, 0, none⟩) k cap, .int .i64 m] W (fun e w' => e = .returned (.int .i64 (hv q m p)) ∧ ∃ n, w' = W.drewN n) := fun W hI => by
          have := value_any q m (some ⟨g, 0, none⟩) cap p W ⟨hp1, hp2⟩ ⟨by omega, by omega⟩ hme hI (by rw [HML.out]; have := HK.out; omega)
          rwa [HML.out] at this
        by_cases hvy : hv q m p = y
        · rw [if_pos hvy] at hws
          have hb1 : (hv q m p == y) = true := by simpa using hvy
          have hb2 : (hv q m p != y) = false := by simpa using hvy
          have HWS := Lib.hid hws
          clear hws hvy hyd
          generalize hv q m p = z at *
          go_wp2_with (go_at_call 62; refine (cv _ (hIp.drewN _)).mono ?_; rintro e w' ⟨rfl, n2, rfl⟩)
          go_roundw
          case rel => exact ⟨m + 1, by omega, by go_num, by rw [HWS.out]; rfl, nd + n2, rfl⟩
          case measure => simp [intOf]; omega
        · rw [if_neg hvy] at hws
          have hb1 : (hv q m p == y) = false := by simpa using hvy
          have hb2 : (hv q m p != y) = true := by simpa using hvy
          have HWS := Lib.hid hws
          clear hws hvy hyd
          generalize hv q m p = z at *
          go_wp2_with (go_at_call 62; refine (cv _ (hIp.drewN _)).mono ?_; rintro e w' ⟨rfl, n2, rfl⟩)
          go_roundw
          case rel => exact ⟨m + 1, by omega, by go_num, by rw [HWS.out]; go_num, nd + n2, rfl⟩
          case measure => simp [intOf]; omega
      · obtain rfl : m = N := by omega
        have hm2 := hm1.drewN nd
        have hn2 := hn1.drewN nd
        have cm := hm2.cell
        have fm := hm2.free
        have lm := hm2.lt
        have cn := hn2.cell
        have fn := hn2.free
        have ln := hn2.lt
        have hb2 := hb1.drewN nd
        have ho2 := ho.drewN nd
        have hS : Fr [Bm, Bn] ws (w1.drewN nd) := fr_of_below hb2 _
        generalize hW : wrongs q p word m = W at *
        by_cases hWt : W ≤ t
        · have d1 : ¬ t < W := by omega
          have d2 : ¬ ((t : Int) < (W : Int)) := by omega
          have HWT := Lib.hid hWt
          have hm3 := (hm2.set (.slice (some ⟨g, 0, none⟩) k cap)).setOther ⟨Bn, 0, none⟩ (.int .i64 W) hmn
          have hn3 := (hn2.setOther ⟨Bm, 0, none⟩ (.slice (some ⟨g, 0, none⟩) k cap) (Ne.symm hmn)).set (.int .i64 W)
          have ho3 : OwnI (((w1.drewN nd).setCell ⟨Bm, 0, none⟩ (.slice (some ⟨g, 0, none⟩) k cap)).setCell ⟨Bn, 0, none⟩ (.int .i64 W)) ws.heap.size (.slice (some ⟨g, 0, none⟩) k cap) k p := ho2.keep fun b hb => by
            simp only [Value.ownBlock, Option.some.injEq] at hb
            subst hb
            rw [Below.heap_setCell _ _ _ _ (by simp; omega), Below.heap_setCell _ _ _ _ (by simp; omega)]
          have hS3 := (hS.set ⟨Bm, 0, none⟩ (.inl (by simp)) (.slice (some ⟨g, 0, none⟩) k cap)).set ⟨Bn, 0, none⟩ (.inl (by simp)) (.int .i64 W)
          clear hWt
          go_wp2
          go_end0
          exact HRY.out _ _ HWT.out ⟨rfl, hS3, _, hm3, ho3, hn3⟩
        · have d1 : t < W := by omega
          have d2 : (t : Int) < (W : Int) := by omega
          have HWT := Lib.hid hWt
          clear hWt
          go_wp2
          exact ⟨rfl, HRN.out _ _ HWT.out ⟨rfl, fr_of_below hb2 _, trivial⟩⟩
end
end Go.Proofs.Ytneliejncfncdaa
