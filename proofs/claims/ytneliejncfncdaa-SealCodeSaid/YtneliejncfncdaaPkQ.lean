/- Texts Q R S T U V X in one. -/
import Derived.Test.YtneliejncfncdaaPkN
import Derived.Test.YtneliejncfncdaaPkB
namespace Go.Proofs.Ytneliejncfncdaa
open Go.RowKit

theorem enter57 : ∀ args w, (callFunc 57 args).run Try.prog w = .ok (.enter 57 args) w := fun _ _ => by kernel_rfl

/-- In how many of the first places a polynomial's value is another. -/
def wrongs (q : Int) (p word : List Int) : Nat → Nat
  | 0 => 0
  | m + 1 => wrongs q p word m + (if hv q m p = word.getD m 0 then 0 else 1)
theorem wrongs_le (q : Int) (p word : List Int) : ∀ m, wrongs q p word m ≤ m
  | 0 => Nat.le_refl _
  | m + 1 => by
    have := wrongs_le q p word m
    rw [wrongs]
    split <;> omega

theorem quoF_bd {q : Int} (hq : 1 ≤ q) (d : List Int) {p : List Int} (hp : elemB q p = true) (L i : Nat) : 0 ≤ quoF q d p L i ∧ quoF q d p L i < q := by
  unfold quoF
  have := remN_elem hq d hp L (L - 1 - i)
  generalize remN q d p L (L - 1 - i) = r at *
  simp only [List.getD]
  cases h : r[i + d.length - 1]? with
  | none => simp; omega
  | some x => exact (elemB_iff' q r).1 this _ x h
theorem bwL_elem {q : Int} (hq : 2 ≤ q) (word : List Int) (hw : elemB q word = true) (k t : Nat) : elemB q (bwL q word k t) = true := by
  unfold bwL bwSt
  exact outOf_elem (by omega) (steps_facts (pwf q) q (by omega) _ _ _ (bwRows_good hq word hw k t word.length) (2 * t + k) (Nat.le_refl _)).2.1 _
theorem mendP_elem {q : Int} (hq : 2 ≤ q) (word : List Int) (hw : elemB q word = true) (k t : Nat) : elemB q (mendP q word k t) = true := by
  refine elemB_of _ _ fun j hj => ?_
  simp only [mendP, List.getElem_map]
  exact quoF_bd (by omega) _ (elemB_take (bwL_elem hq word hw k t) _) _ _
theorem mendP_length (q : Int) (word : List Int) (k t : Nat) : (mendP q word k t).length = k := by simp [mendP]

section
variable (q : Int) (A : Option Addr) (c n : Nat) (word : List Int) (w : World) (Bq Bw Bk Bm Bn : Nat)

theorem rd1_no (hq : One w Bq (.int .i64 q) 3) (h : primeB q = false) :
    Calls Try.prog 57 #[.pointer (some ⟨Bq, 0, none⟩), .pointer (some ⟨Bw, 0, none⟩), .pointer (some ⟨Bk, 0, none⟩), .pointer (some ⟨Bm, 0, none⟩), .pointer (some ⟨Bn, 0, none⟩)] w fun e w' => e = .panicked (refusal 1) ∧ Fr [] w w' ∧ True := by
  have cq := hq.cell
  go_enter Try.func57, Try.ntmps57
  go_wp2_with (go_at_call 58; refine (over_no _ _ h).mono ?_; rintro e w' ⟨rfl, rfl⟩)
  exact ⟨rfl, rfl, Fr.refl _ _, trivial⟩

theorem rd1_out (hq : One w Bq (.int .i64 q) 3) (hp : One w Bw (.slice A word.length c) 22) (hA : Ints w A word) (hl : word.length ≤ 1000000) (h : primeB q = true) (h2 : elemB q word = false) :
    Calls Try.prog 57 #[.pointer (some ⟨Bq, 0, none⟩), .pointer (some ⟨Bw, 0, none⟩), .pointer (some ⟨Bk, 0, none⟩), .pointer (some ⟨Bm, 0, none⟩), .pointer (some ⟨Bn, 0, none⟩)] w fun e w' => e = .panicked (refusal 1) ∧ Fr [] w w' ∧ True := by
  have cq := hq.cell
  have cp := hp.cell
  go_enter Try.func57, Try.ntmps57
  go_wp2_with (first | (go_at_call 58; refine (over_yes _ _ h).mono ?_; rintro e w' ⟨rfl, rfl⟩) | (go_at_call 59; refine (elements_no q _ _ word _ h2 hA hl).mono ?_; rintro e w' ⟨rfl, rfl⟩))
  exact ⟨rfl, rfl, Fr.refl _ _, trivial⟩

theorem rd1_must (k : Int) (hq : One w Bq (.int .i64 q) 3) (hp : One w Bw (.slice A word.length c) 22) (hk : One w Bk (.int .i64 k) 3) (hA : Ints w A word) (hl : word.length ≤ 1000000) (h : primeB q = true) (h2 : elemB q word = true)
    (h3 : (decide (1 ≤ k) && decide (k ≤ (word.length : Int)) && decide ((word.length : Int) ≤ q)) = false) :
    Calls Try.prog 57 #[.pointer (some ⟨Bq, 0, none⟩), .pointer (some ⟨Bw, 0, none⟩), .pointer (some ⟨Bk, 0, none⟩), .pointer (some ⟨Bm, 0, none⟩), .pointer (some ⟨Bn, 0, none⟩)] w fun e w' => e = .panicked (refusal 1) ∧ Fr [] w w' ∧ True := by
  have cq := hq.cell
  have cp := hp.cell
  have ck := hk.cell
  have lq := hq.lt
  have lp := hp.lt
  have lk := hk.lt
  have H3 := Lib.hid h3
  clear h3
  cases e1 : decide (1 ≤ k) with
  | false =>
    clear H3
    go_enter Try.func57, Try.ntmps57
    go_wp2_with (first | (go_at_call 58; refine (over_yes _ _ h).mono ?_; rintro e w' ⟨rfl, rfl⟩) | (go_at_call 59; refine (elements_yes q _ _ word _ h2 hA hl).mono ?_; rintro e w' ⟨rfl, rfl⟩) | (go_at_call 60; refine (must_no _).mono ?_; rintro e w' ⟨rfl, rfl⟩))
    exact ⟨rfl, rfl, Fr.refl _ _, trivial⟩
  | true =>
    cases e2 : decide (k ≤ (word.length : Int)) with
    | false =>
      clear H3
      go_enter Try.func57, Try.ntmps57
      go_wp2_with (first | (go_at_call 58; refine (over_yes _ _ h).mono ?_; rintro e w' ⟨rfl, rfl⟩) | (go_at_call 59; refine (elements_yes q _ _ word _ h2 hA hl).mono ?_; rintro e w' ⟨rfl, rfl⟩) | (go_at_call 60; refine (must_no _).mono ?_; rintro e w' ⟨rfl, rfl⟩))
      exact ⟨rfl, rfl, Fr.refl _ _, trivial⟩
    | true =>
      have e3 : decide ((word.length : Int) ≤ q) = false := by
        have := H3.out
        rw [e1, e2] at this
        simpa using this
      clear H3
      go_enter Try.func57, Try.ntmps57
      go_wp2_with (first | (go_at_call 58; refine (over_yes _ _ h).mono ?_; rintro e w' ⟨rfl, rfl⟩) | (go_at_call 59; refine (elements_yes q _ _ word _ h2 hA hl).mono ?_; rintro e w' ⟨rfl, rfl⟩) | (go_at_call 60; refine (must_no _).mono ?_; rintro e w' ⟨rfl, rfl⟩))
      exact ⟨rfl, rfl, Fr.refl _ _, trivial⟩
end
end Go.Proofs.Ytneliejncfncdaa

namespace Go.Proofs.Ytneliejncfncdaa
open Go.RowKit

section
variable (q : Int) (A : Option Addr) (c n k t : Nat) (word : List Int) (w : World) (Bq Bw Bk Bm Bn : Nat)

def RdOk (e : Ending) (w w' : World) : Prop :=
  e = .returned (.tuple #[]) ∧ Fr [Bm, Bn] w w' ∧ ∃ v, One w' Bm v 22 ∧ OwnI w' w.heap.size v k (mendP q word k t) ∧ One w' Bn (.int .i64 (wrongs q (mendP q word k t) word word.length : Nat)) 3
def RdNo (e : Ending) (w w' : World) : Prop := e = .panicked (refusal 6) ∧ Fr [] w w' ∧ True
def RdRet (e : Ending) (w' : World) : Prop :=
  if mendOk q word k t && decide (wrongs q (mendP q word k t) word word.length ≤ t) then RdOk q k t word Bm Bn e w w' else RdNo e w w'

set_option maxRecDepth 100000 in
set_option maxHeartbeats 3200000 in
theorem rd1_run (hq : One w Bq (.int .i64 q) 3) (hp : One w Bw (.slice A word.length c) 22) (hk : One w Bk (.int .i64 k) 3) (hm : ∃ x, One w Bm x 22) (hn : ∃ x, One w Bn x 3) (hA : Ints w A word) (h : primeB q = true) (h2 : elemB q word = true)
    (hmn : Bm ≠ Bn) (hk1 : 1 ≤ k) (hkn : k ≤ word.length) (hlq : (word.length : Int) ≤ q) (ht : t = (word.length - k) / 2) :
    Calls Try.prog 57 #[.pointer (some ⟨Bq, 0, none⟩), .pointer (some ⟨Bw, 0, none⟩), .pointer (some ⟨Bk, 0, none⟩), .pointer (some ⟨Bm, 0, none⟩), .pointer (some ⟨Bn, 0, none⟩)] w (RdRet q k t word w Bm Bn) := by
  have cq := hq.cell
  have cp := hp.cell
  have ck := hk.cell
  have lq := hq.lt
  have lp := hp.lt
  have lk := hk.lt
  obtain ⟨xm, hm⟩ := hm
  obtain ⟨xn, hn⟩ := hn
  have hpr := prime_bd h
  obtain ⟨hp1, hp2⟩ := hpr
  have e1 : decide ((1 : Int) ≤ (k : Int)) = true := by simp; omega
  have e2 : decide ((k : Int) ≤ (word.length : Int)) = true := by simp; omega
  have e3 : decide ((word.length : Int) ≤ q) = true := by simpa using hlq
  have htd : ((word.length : Int) - (k : Int)).tdiv 2 = (t : Int) := by
    rw [Int.tdiv_eq_ediv_of_nonneg (by omega)]
    omega
  have hw1 : IntKind.i64.wrap ((word.length : Int) - (k : Int)) = (word.length : Int) - (k : Int) := IntWalk.i64_in _ (by omega)
  have hw2 : IntKind.i64.wrap (t : Int) = (t : Int) := IntWalk.i64_in _ (by omega)
  have htb : 2 * t + k ≤ word.length := by omega
  have HT := Lib.hid htb
  have HK := Lib.hid hkn
  have HQ := Lib.hid hlq
  clear ht hkn hlq htb
  obtain ⟨ws, rfl⟩ : ∃ ws, ws = w := ⟨_, rfl⟩
  have c58 : ∀ W, Calls Try.prog 58 #[.int .i64 q] W fun e w' => e = .returned (.int .i64 q) ∧ W = w' := fun W => (over_yes _ _ h).mono fun e w' h => ⟨h.1, h.2.symm⟩
  have c59 : Calls Try.prog 59 #[.int .i64 q, .slice A word.length c] ws fun e w' => e = .returned (.tuple #[]) ∧ ws = w' := (elements_yes q _ _ word _ h2 hA (by have := HQ.out; omega)).mono fun e w' h => ⟨h.1, h.2.symm⟩
  have c60 : Calls Try.prog 60 #[.bool true] ws fun e w' => e = .returned (.tuple #[]) ∧ ws = w' := (must_yes _).mono fun e w' h => ⟨h.1, h.2.symm⟩
  have c61 : Calls Try.prog 61 #[.int .i64 q, .slice A word.length c, .int .i64 k, .int .i64 t] ws (RetMend q word k t ws) := mended_any q k t word.length A c word ws ⟨hp1, hp2⟩ h2 hA rfl (by have := HQ.out; omega) hk1 HT.out
  go_enter Try.func57, Try.ntmps57
  go_wp2_with (first | (go_at_call 58; refine (c58 _).mono ?_; rintro e w' ⟨rfl, rfl⟩) | (go_at_call 59; refine c59.mono ?_; rintro e w' ⟨rfl, rfl⟩) | (go_at_call 60; refine c60.mono ?_; rintro e w' ⟨rfl, rfl⟩))
  refine c61.mono ?_
  rintro e w1 ⟨v1, rfl, hb1, hown⟩
  have cp1 := (hp.below hb1 lp).cell
  have lp1 := (hp.below hb1 lp).lt
  have hA1 := Ints.below hA hb1
  have hm1 := hm.below hb1 hm.lt
  have hn1 := hn.below hb1 hn.lt
  have hlm := hm.lt
  have hln := hn.lt
  clear c58 c59 c60 c61 cq cp ck lq lp lk hq hk hA hm hn e1 e2 e3 htd hw1 hw2
  have hnw : word.length ≤ 31 := by have := HQ.out; omega
  generalize hN : word.length = N at *
  have HN := Lib.hid hN
  clear hN
  cases hok : mendOk q word k t with
  | false =>
    have hR : ∀ e w', RdNo e ws w' → RdRet q k t word ws Bm Bn e w' := fun e w' h => by unfold RdRet; rw [hok]; exact h
    clear hown
    go_wp2_with fail
    go_loop [9, 47] (fun s i => ∃ m : Nat, m ≤ N ∧ i = .int .i64 m ∧ s = .int .i64 0) (fun _ i => N - (intOf i).toNat)
    case atStart => exact ⟨0, by omega, rfl, rfl⟩
    case round =>
      obtain ⟨m, hm, rfl, rfl⟩ := hrel
      by_cases hmn2 : m < N
      · obtain ⟨b, off, rfl, hblt, hcell⟩ := hA1.get (k := m) (by rw [HN.out]; exact hmn2)
        go_wp2
        go_round
        case rel => exact ⟨m + 1, by omega, by go_num, rfl⟩
        case measure => simp [intOf]; omega
      · obtain rfl : m = N := by omega
        go_wp2
        exact ⟨rfl, hR _ _ ⟨rfl, fr_of_below hb1 _, trivial⟩⟩
  | true =>
    have ho := hown hok
    have hml := mendP_length q word k t
    have hme := mendP_elem hp1 word h2 k t
    obtain ⟨g, cap, rfl, hg, hg'⟩ := ho.form (by omega)
    have hIp := ho.ints
    have hRy : ∀ e w', wrongs q (mendP q word k t) word word.length ≤ t → RdOk q k t word Bm Bn e ws w' → RdRet q k t word ws Bm Bn e w' := fun e w' h1 h => by unfold RdRet; rw [hok, decide_eq_true h1]; exact h
    have hRn : ∀ e w', ¬ wrongs q (mendP q word k t) word word.length ≤ t → RdNo e ws w' → RdRet q k t word ws Bm Bn e w' := fun e w' h1 h => by unfold RdRet; rw [hok, decide_eq_false h1]; exact h
    unfold RdOk at hRy
    simp only [HN.out] at hRy hRn
    clear hown
    generalize mendP q word k t = p at *
    have HML := Lib.hid hml
    have HRY := Lib.hid hRy
    have HRN := Lib.hid hRn
    clear hml hRy hRn
    go_wp2_with fail
    go_loopw [9, 47] (fun s i wx => ∃ m : Nat, m ≤ N ∧ i = .int .i64 m ∧ s = .int .i64 (wrongs q p word m : Nat) ∧ ∃ nd, wx = w1.drewN nd) (fun _ i _ => N - (intOf i).toNat)
    case atStart => exact ⟨0, by omega, rfl, rfl, 0, rfl⟩
    case round =>
      obtain ⟨m, hm, rfl, rfl, nd, rfl⟩ := hrel
      have hwl := wrongs_le q p word m
      by_cases hmn2 : m < N
      · obtain ⟨b, off, rfl, hblt, hcell⟩ := hA1.get (k := m) (by rw [HN.out]; exact hmn2)
        have hyd : word.getD m 0 = word[m]'(by rw [HN.out]; exact hmn2) := by simp [List.getD, show m < word.length by rw [HN.out]; exact hmn2]
        generalize word[m]'(by rw [HN.out]; exact hmn2) = y at *
        have hws : wrongs q p word (m + 1) = wrongs q p word m + (if hv q m p = y then 0 else 1) := by rw [wrongs, hyd]
        have cv : ∀ W, Ints W (some ⟨g, 0, none⟩) p → Calls Try.prog 62 #[.int .i64 q, .slice (some ⟨g, 0, none⟩) k cap, .int .i64 m] W (fun e w' => e = .returned (.int .i64 (hv q m p)) ∧ ∃ n, w' = W.drewN n) := fun W hI => by
          have := value_any q m (some ⟨g, 0, none⟩) cap p W ⟨hp1, hp2⟩ ⟨by omega, by omega⟩ hme hI (by rw [HML.out]; have := HK.out; omega)
          rwa [HML.out] at this
        by_cases hvy : hv q m p = y
        · rw [if_pos hvy] at hws
          have hb1 : (hv q m p == y) = true := by simpa using hvy
          have hb2 : (hv q m p != y) = false := by simpa using hvy
          have HWS := Lib.hid hws
          clear hws hvy hyd
          generalize hv q m p = z at *
          go_wp2_with (go_at_call 62; refine (cv _ (hIp.drewN _)).mono ?_; rintro e w' ⟨rfl, n2, rfl⟩)
          go_roundw
          case rel => exact ⟨m + 1, by omega, by go_num, by rw [HWS.out]; rfl, nd + n2, rfl⟩
          case measure => simp [intOf]; omega
        · rw [if_neg hvy] at hws
          have hb1 : (hv q m p == y) = false := by simpa using hvy
          have hb2 : (hv q m p != y) = true := by simpa using hvy
          have HWS := Lib.hid hws
          clear hws hvy hyd
          generalize hv q m p = z at *
          go_wp2_with (go_at_call 62; refine (cv _ (hIp.drewN _)).mono ?_; rintro e w' ⟨rfl, n2, rfl⟩)
          go_roundw
          case rel => exact ⟨m + 1, by omega, by go_num, by rw [HWS.out]; go_num, nd + n2, rfl⟩
          case measure => simp [intOf]; omega
      · obtain rfl : m = N := by omega
        have hm2 := hm1.drewN nd
        have hn2 := hn1.drewN nd
        have cm := hm2.cell
        have fm := hm2.free
        have lm := hm2.lt
        have cn := hn2.cell
        have fn := hn2.free
        have ln := hn2.lt
        have hb2 := hb1.drewN nd
        have ho2 := ho.drewN nd
        have hS : Fr [Bm, Bn] ws (w1.drewN nd) := fr_of_below hb2 _
        generalize hW : wrongs q p word m = W at *
        by_cases hWt : W ≤ t
        · have d1 : ¬ t < W := by omega
          have d2 : ¬ ((t : Int) < (W : Int)) := by omega
          have HWT := Lib.hid hWt
          have hm3 := (hm2.set (.slice (some ⟨g, 0, none⟩) k cap)).setOther ⟨Bn, 0, none⟩ (.int .i64 W) hmn
          have hn3 := (hn2.setOther ⟨Bm, 0, none⟩ (.slice (some ⟨g, 0, none⟩) k cap) (Ne.symm hmn)).set (.int .i64 W)
          have ho3 : OwnI (((w1.drewN nd).setCell ⟨Bm, 0, none⟩ (.slice (some ⟨g, 0, none⟩) k cap)).setCell ⟨Bn, 0, none⟩ (.int .i64 W)) ws.heap.size (.slice (some ⟨g, 0, none⟩) k cap) k p := ho2.keep fun b hb => by
            simp only [Value.ownBlock, Option.some.injEq] at hb
            subst hb
            rw [Below.heap_setCell _ _ _ _ (by simp; omega), Below.heap_setCell _ _ _ _ (by simp; omega)]
          have hS3 := (hS.set ⟨Bm, 0, none⟩ (.inl (by simp)) (.slice (some ⟨g, 0, none⟩) k cap)).set ⟨Bn, 0, none⟩ (.inl (by simp)) (.int .i64 W)
          clear hWt
          go_wp2
          go_end0
          exact HRY.out _ _ HWT.out ⟨rfl, hS3, _, hm3, ho3, hn3⟩
        · have d1 : t < W := by omega
          have d2 : (t : Int) < (W : Int) := by omega
          have HWT := Lib.hid hWt
          clear hWt
          go_wp2
          exact ⟨rfl, HRN.out _ _ HWT.out ⟨rfl, fr_of_below hb2 _, trivial⟩⟩
end
end Go.Proofs.Ytneliejncfncdaa

namespace Go.Proofs.Ytneliejncfncdaa
open Go.RowKit

/-- seal.Read: the message, how many are wrong, the error. -/
def readR (q k : Int) (word : List Int) : List Int × Int × Int :=
  if primeB q && elemB q word && (decide (1 ≤ k) && decide (k ≤ (word.length : Int)) && decide ((word.length : Int) ≤ q)) then
    (if mendOk q word k.toNat ((word.length - k.toNat) / 2) && decide (wrongs q (mendP q word k.toNat ((word.length - k.toNat) / 2)) word word.length ≤ (word.length - k.toNat) / 2)
      then (mendP q word k.toNat ((word.length - k.toNat) / 2), (wrongs q (mendP q word k.toNat ((word.length - k.toNat) / 2)) word word.length : Nat), 0) else ([], 0, 6))
  else ([], 0, 1)

/-- A result of three: a list, a number, an error. -/
def Ret3 (xs : List Int) (m n : Int) (w : World) (e : Ending) (w' : World) : Prop :=
  ∃ v, e = .returned (.tuple #[v, .int .i64 m, .int .i64 n]) ∧ SlI w' v xs ∧ (xs = [] → v = .slice none 0 0) ∧ Below w.heap.size w w'

set_option maxRecDepth 100000 in
set_option maxHeartbeats 1600000 in
theorem read_top (q k : Int) (A : Option Addr) (c : Nat) (p : List Int) (w : World) (xs : List Int) (m n : Int)
    (hg : ∀ w3 : World, One w3 w.heap.size (.int .i64 q) 3 → One w3 (w.heap.size + 1) (.int .i64 k) 3 → One w3 (w.heap.size + 2) (.slice A p.length c) 22 → One w3 (w.heap.size + 3) (.slice none 0 0) 22 → One w3 (w.heap.size + 4) (.int .i64 0) 3 → w3.heap.size = w.heap.size + 5 → Below w.heap.size w w3 →
      Calls Try.prog 56 #[.func (.func 57) #[] #[.pointer (some ⟨w.heap.size, 0, none⟩), .pointer (some ⟨w.heap.size + 2, 0, none⟩), .pointer (some ⟨w.heap.size + 1, 0, none⟩), .pointer (some ⟨w.heap.size + 3, 0, none⟩), .pointer (some ⟨w.heap.size + 4, 0, none⟩)]] w3
        fun e w' => e = .returned (.int .i64 n) ∧ Fr [w.heap.size + 3, w.heap.size + 4] w3 w' ∧ ∃ v, One w' (w.heap.size + 3) v 22 ∧ OwnI w' (w.heap.size + 5) v xs.length xs ∧ (xs = [] → v = .slice none 0 0) ∧ One w' (w.heap.size + 4) (.int .i64 m) 3) :
    Calls Try.prog 18 #[.int .i64 q, .int .i64 k, .slice A p.length c] w (Ret3 xs m n w) := by
  have hmf : ∀ (fn : Fn) (first cap : Array Value) (w : World), (Instr.makeFunc fn first cap).run Try.prog w = .ok (.func fn first cap) w := fun _ _ _ _ => rfl
  have HG := Lib.hid hg
  clear hg
  go_enter Try.func18, Try.ntmps18
  go_wp2_with fail
  refine (HG.out _ ?_ ?_ ?_ ?_ ?_ ?_ ?_).mono ?_
  · exact ((((One.new w _ 3).alloc _).alloc _).alloc _).alloc _
  · exact (((One.newAt (w.alloc _) _ 3 _ (by simp)).alloc _).alloc _).alloc _
  · exact ((One.newAt ((w.alloc _).alloc _) _ 22 _ (by simp)).alloc _).alloc _
  · exact (One.newAt (((w.alloc _).alloc _).alloc _) _ 22 _ (by simp)).alloc _
  · exact One.newAt ((((w.alloc _).alloc _).alloc _).alloc _) _ 3 _ (by simp)
  · simp
  · exact ((((((Fr.refl [] w).alloc _).alloc _).alloc _).alloc _).alloc _).below
  · rintro e w' ⟨rfl, hf, v, hov, hown, hnil, hom⟩
    have hsli := hown.sli
    obtain ⟨AA, cc, hvs, hs1, hs2, hs3, hs4⟩ := hsli
    subst hvs
    have cv := hov.cell
    have fv := hov.free
    have lv := hov.lt
    have cm := hom.cell
    have fm := hom.free
    have lm := hom.lt
    have hfb : Below w.heap.size w w' := ((((((Fr.refl [] w).alloc _).alloc _).alloc _).alloc _).alloc _).below.trans (hf.belowOf (by simp; omega) (by simp))
    go_wp2_with fail
    have hov1 := hov.set (.slice AA xs.length cc)
    have hom1 := hom.setOther ⟨w.heap.size + 3, 0, none⟩ (.slice AA xs.length cc) (by simp)
    refine Lex.wp_region_lex (fun w' => w'.cell? ⟨w.heap.size + 3, 0, none⟩ = some (.slice AA xs.length cc) ∧ w'.cell? ⟨w.heap.size + 4, 0, none⟩ = some (.int .i64 m)) (fun _ => true)
      [(0, true), (1, true), (2, true), (3, false), (4, false), (5, false)]
      (by kernel_rfl) (by kernel_rfl) (by kernel_rfl) (by kernel_rfl) ⟨cv, cm⟩ ?_
    repeat (refine Lex.lex_take (v := ?_) rfl rfl (by rfl) (fun _ hS => ?_) ?_; rotate_left 1; (focus (go_split_ands; go_simp; with_reducible rfl)); simp only [List.setIfInBounds_toArray, List.set_cons_zero, List.set_cons_succ])
    refine Lex.lex_do rfl ?_
    go_wp2_with fail
    refine Lex.lexQ_normal (fun _ => ⟨hov1.cell, hom1.cell⟩) ?_
    have cm1 := hom1.cell
    have fm1 := hom1.free
    have lm1 := hom1.lt
    refine Lex.lex_do rfl ?_
    go_wp2_with fail
    refine Lex.lexQ_normal (fun _ => ⟨(hov1.setOther ⟨w.heap.size + 4, 0, none⟩ (.int .i64 m) (by simp)).cell, (hom1.set (.int .i64 m)).cell⟩) ?_
    refine Lex.lex_do rfl ?_
    go_wp2_with fail
    refine Lex.lexQ_normal (fun _ => ⟨(hov1.setOther ⟨w.heap.size + 4, 0, none⟩ (.int .i64 m) (by simp)).cell, (hom1.set (.int .i64 m)).cell⟩) ?_
    refine Lex.lex_nil ?_
    have cv2 := (hov1.setOther ⟨w.heap.size + 4, 0, none⟩ (.int .i64 m) (by simp)).cell
    have cm2 := (hom1.set (.int .i64 m)).cell
    have hown2 : OwnI ((w'.setCell ⟨w.heap.size + 3, 0, none⟩ (.slice AA xs.length cc)).setCell ⟨w.heap.size + 4, 0, none⟩ (.int .i64 m)) (w.heap.size + 5) (.slice AA xs.length cc) xs.length xs := hown.keep fun b hb => by
      have := (hown.lt b hb).1
      rw [Below.heap_setCell _ _ _ _ (by simp; omega), Below.heap_setCell _ _ _ _ (by simp; omega)]
    have hfb2 := ((hfb.setCell (p := ⟨w.heap.size + 3, 0, none⟩) (by simp) (.slice AA xs.length cc)).setCell (p := ⟨w.heap.size + 4, 0, none⟩) (by simp) (.int .i64 m)).drew
    have hsl2 := hown2.sli
    clear hov1 hom1 cm1 fm1 lm1 cv cm fv fm lv lm hov hom hown hown2 hs4 hf HG
    go_wp2
    refine bodyPost_ret (v := .tuple #[.slice AA xs.length cc, .int .i64 m, .int .i64 n]) (by simp [results, Try.results18, go_sem, cv2, cm2]) rfl ⟨_, rfl, hsl2, hnil, hfb2⟩

theorem read_ret (q k : Int) (A : Option Addr) (c : Nat) (p : List Int) (w : World) (hA : Ints w A p) (hl : p.length ≤ 1000000) :
    Calls Try.prog 18 #[.int .i64 q, .int .i64 k, .slice A p.length c] w (Ret3 (readR q k p).1 (readR q k p).2.1 (readR q k p).2.2 w) := by
  refine read_top q k A c p w _ _ _ fun w3 h1 h2 h3 h4 h5 hs hb => ?_
  have hA3 := hA.below hb
  have bad : ∀ (w' : World) (e : Ending) (z : Int), e = .returned (.int .i64 z) ∧ Fr [] w3 w' ∧ (∃ w1 : World, True ∧ Fr [w3.heap.size] w1 w') →
      e = .returned (.int .i64 z) ∧ Fr [w.heap.size + 3, w.heap.size + 4] w3 w' ∧ ∃ v, One w' (w.heap.size + 3) v 22 ∧ OwnI w' (w.heap.size + 5) v ([] : List Int).length [] ∧ (([] : List Int) = [] → v = .slice none 0 0) ∧ One w' (w.heap.size + 4) (.int .i64 0) 3 := by
    rintro w' e z ⟨h, hf, _⟩
    exact ⟨h, hf.mono (by simp), _, h4.fr hf (by simp), OwnI.nil _ _, fun _ => rfl, h5.fr hf (by simp)⟩
  unfold readR
  by_cases hp : primeB q = true
  · by_cases he : elemB q p = true
    · by_cases hm : (decide (1 ≤ k) && decide (k ≤ (p.length : Int)) && decide ((p.length : Int) ≤ q)) = true
      · rw [hp, he, hm]
        simp only [Bool.and_self, if_true]
        simp only [Bool.and_eq_true, decide_eq_true_eq] at hm
        obtain ⟨⟨m1, m2⟩, m3⟩ := hm
        obtain ⟨kn, rfl⟩ : ∃ kn : Nat, k = kn := ⟨k.toNat, by omega⟩
        simp only [Int.toNat_natCast]
        have hrun := rd1_run q A c kn ((p.length - kn) / 2) p _ _ _ _ _ _ (h1.alloc (.cells #[.int .i64 0] 24)) (h3.alloc _) (h2.alloc _) ⟨_, h4.alloc _⟩ ⟨_, h5.alloc _⟩ (hA3.alloc _) hp he (by simp) (by omega) (by omega) m3 rfl
        unfold RdRet at hrun
        cases hx : mendOk q p kn ((p.length - kn) / 2) && decide (wrongs q (mendP q p kn ((p.length - kn) / 2)) p p.length ≤ (p.length - kn) / 2) with
        | true =>
          rw [hx] at hrun
          simp only [if_true] at hrun
          have hml := mendP_length q p kn ((p.length - kn) / 2)
          unfold RdOk at hrun
          generalize mendP q p kn ((p.length - kn) / 2) = xs at *
          refine (guarded_okF 57 _ w3 [w.heap.size + 3, w.heap.size + 4] _ enter57 hrun (by simp; omega)).mono ?_
          rintro e w' ⟨h, hf, w1, ⟨v, g1, g2, g3⟩, hf1⟩
          refine ⟨h, hf, v, g1.fr hf1 (by simp; omega), ?_, fun hh => ?_, g3.fr hf1 (by simp; omega)⟩
          · show OwnI w' (w.heap.size + 5) v xs.length xs
            rw [hml]
            refine (g2.fr hf1 fun b hb => ?_).mono (by simp; omega)
            have := (g2.lt b hb).1
            simp at this ⊢
            omega
          · subst hh; simp at hml; omega
        | false =>
          rw [hx] at hrun
          simp only [Bool.false_eq_true, if_false] at hrun
          refine (guarded_panicF 57 _ 6 w3 [] (fun _ => True) enter57 hrun (by simp)).mono ?_
          intro e w' h
          simpa using bad w' e 6 h
      · have hm' : (decide (1 ≤ k) && decide (k ≤ (p.length : Int)) && decide ((p.length : Int) ≤ q)) = false := Bool.not_eq_true _ ▸ hm
        rw [hp, he, hm']
        simp only [Bool.and_false, Bool.false_eq_true, if_false]
        refine (guarded_panicF 57 _ 1 w3 [] (fun _ => True) enter57 (rd1_must q A c p _ _ _ _ _ _ k (h1.alloc _) (h3.alloc _) (h2.alloc _) (hA3.alloc _) hl hp he hm') (by simp)).mono ?_
        intro e w' h
        simpa using bad w' e 1 h
    · rw [hp, (by simpa using he : elemB q p = false)]
      simp only [Bool.and_false, Bool.false_and, Bool.false_eq_true, if_false]
      refine (guarded_panicF 57 _ 1 w3 [] (fun _ => True) enter57 (rd1_out q A c p _ _ _ _ _ _ (h1.alloc _) (h3.alloc _) (hA3.alloc _) hl hp (by simpa using he)) (by simp)).mono ?_
      intro e w' h
      simpa using bad w' e 1 h
  · rw [(by simpa using hp : primeB q = false)]
    simp only [Bool.false_and, Bool.false_eq_true, if_false]
    refine (guarded_panicF 57 _ 1 w3 [] (fun _ => True) enter57 (rd1_no q _ _ _ _ _ _ (h1.alloc _) (by simpa using hp)) (by simp)).mono ?_
    intro e w' h
    simpa using bad w' e 1 h
end Go.Proofs.Ytneliejncfncdaa

namespace Go.Proofs.Ytneliejncfncdaa
open Go.RowKit

/-- A result of two: a list and an error. -/
def Ret2 (xs : List Int) (n : Int) (w : World) (e : Ending) (w' : World) : Prop :=
  ∃ v, e = .returned (.tuple #[v, .int .i64 n]) ∧ SlI w' v xs ∧ Below w.heap.size w w'

theorem items_valid {q t n : Int} (h : 0 < itemsM q t n) : primeB q = true ∧ 1 ≤ t ∧ t ≤ q ∧ t ≤ n ∧ n ≤ q ∧ q ^ t.toNat ≤ 1000 ∧ itemsM q t n = q ^ t.toNat := by
  by_cases hc : primeB q = true ∧ 1 ≤ t ∧ t ≤ q ∧ t ≤ n ∧ n ≤ q ∧ q ^ t.toNat ≤ 1000
  · exact ⟨hc.1, hc.2.1, hc.2.2.1, hc.2.2.2.1, hc.2.2.2.2.1, hc.2.2.2.2.2, items_pow hc⟩
  · rw [items_zero hc] at h; omega

/-- seal.Members. -/
def membersR (q t n item : Int) : List Int × Int := if item < 0 ∨ itemsM q t n ≤ item then ([], 1) else (membersM q item t.toNat n.toNat, 0)

theorem SlI.nil (w : World) : SlI w (.slice none 0 0) [] := ⟨none, 0, rfl, by simp, by simp [maxLen], fun _ => rfl, Ints.nil _ _⟩
theorem SlI.below {w w' : World} {v : Value} {xs : List Int} (h : SlI w v xs) (hb : Below w.heap.size w w') : SlI w' v xs := by
  obtain ⟨A, c, hv, h1, h2, h3, h4⟩ := h
  exact ⟨A, c, hv, h1, h2, h3, Ints.below h4 hb⟩

set_option maxRecDepth 100000 in
set_option maxHeartbeats 800000 in
theorem Members_any (q t n item : Int) (w : World) : Calls Try.prog 27 #[pools q t n, .int .i64 item] w (Ret2 (membersR q t n item).1 (membersR q t n item).2 w) := by
  by_cases h0 : item < 0
  · have e : membersR q t n item = ([], 1) := by unfold membersR; rw [if_pos (.inl h0)]
    rw [e]
    go_enter Try.func27, Try.ntmps27
    go_wp2
    go_ret2
    exact ⟨_, rfl, SlI.nil _, (Below.refl _ _).alloc (Nat.le_refl _) _⟩
  · by_cases h1 : itemsM q t n ≤ item
    · have e : membersR q t n item = ([], 1) := by unfold membersR; rw [if_pos (.inr h1)]
      rw [e]
      generalize hI : itemsM q t n = I at *
      have c64 : ∀ W, Calls Try.prog 64 #[pools q t n] W fun e w' => e = .returned (.int .i64 I) ∧ Below W.heap.size W w' := fun W => by rw [← hI]; exact items_any q t n W
      clear hI e
      go_enter Try.func27, Try.ntmps27
      go_wp2_with (go_at_call 64; refine (c64 _).mono ?_; rintro e w1 ⟨rfl, hb1⟩)
      go_ret2
      exact ⟨_, rfl, SlI.nil _, ((Below.refl _ _).alloc (Nat.le_refl _) _).trans (hb1.mono (by simp))⟩
    · have e : membersR q t n item = (membersM q item t.toNat n.toNat, 0) := by unfold membersR; rw [if_neg (by omega)]
      rw [e]
      have hv := items_valid (q := q) (t := t) (n := n) (by omega)
      obtain ⟨v1, v2, v3, v4, v5, v6, v7⟩ := hv
      have hp := prime_bd v1
      obtain ⟨hp1, hp2⟩ := hp
      have cm : ∀ W, Calls Try.prog 65 #[pools q t n, .int .i64 item] W (RetInts (membersM q item t.toNat n.toNat) W) := fun W => by
        have := members_any q item t.toNat n.toNat W ⟨hp1, hp2⟩ (by omega) (by omega) ⟨by omega, by omega⟩
        rwa [show ((t.toNat : Nat) : Int) = t by omega, show ((n.toNat : Nat) : Int) = n by omega] at this
      generalize hI : itemsM q t n = I at *
      have c64 : ∀ W, Calls Try.prog 64 #[pools q t n] W fun e w' => e = .returned (.int .i64 I) ∧ Below W.heap.size W w' := fun W => by rw [← hI]; exact items_any q t n W
      clear hI e v1 v6 v7
      generalize membersM q item t.toNat n.toNat = xs at *
      go_enter Try.func27, Try.ntmps27
      go_wp2_with (go_at_call 64; refine (c64 _).mono ?_; rintro e w1 ⟨rfl, hb1⟩; have k0 := hb1.cell (p := ⟨w.heap.size, 0, none⟩) (by simp); have k1 := hb1.cell (p := ⟨w.heap.size, 1, none⟩) (by simp); have k2 := hb1.cell (p := ⟨w.heap.size, 2, none⟩) (by simp); simp [go_sem] at k0 k1 k2; have hs1 := hb1.size; simp at hs1)
      refine (cm _).mono ?_
      rintro e w2 ⟨v, rfl, hs, hb2⟩
      have hbf := (((Below.refl w.heap.size w).alloc (Nat.le_refl _) (.cells #[.int .i64 q, .int .i64 t, .int .i64 n] 35)).trans (hb1.mono (by simp))).trans (hb2.mono (by omega))
      clear k0 k1 k2 cm c64 hb1 hb2
      go_wp2
      go_ret2
      exact ⟨v, rfl, hs, hbf⟩

theorem drewN2 (w : World) (a b : Nat) : (w.drewN a).drewN b = w.drewN (a + b) := by simp [World.drewN, Nat.add_assoc]

set_option maxHeartbeats 800000 in
/-- The law's same. -/
theorem lawsame_any (A B : Option Addr) (n m c d : Nat) (xs ys : List Int) (w : World) (hA : Ints w A xs) (hB : Ints w B ys) (hn : xs.length = n) (hm : ys.length = m) (hb : n ≤ 1000000) (hb2 : m ≤ 1000000) :
    Calls Try.prog 23 #[.slice A n c, .slice B m d] w fun e w' => e = .returned (.bool (decide (xs = ys))) ∧ ∃ k, w' = w.drewN k := by
  by_cases hnm : n = m
  · subst hnm
    have HN := Lib.hid hn
    have HM := Lib.hid hm
    clear hn hm
    go_enter Try.func23, Try.ntmps23
    go_wp2
    go_loopw [5] (fun i wr => ∃ k : Nat, k ≤ n ∧ i = .int .i64 k ∧ xs.take k = ys.take k ∧ ∃ nd, wr = w.drewN nd) (fun i _ => n - (intOf i).toNat)
    case atStart => exact ⟨0, by omega, rfl, rfl, 0, rfl⟩
    case round =>
      obtain ⟨k, hk, rfl, ht, nd, rfl⟩ := hrel
      by_cases hlt : k < n
      · obtain ⟨b1, o1, rfl, hl1, hc1⟩ := hA.get (k := k) (by rw [HN.out]; exact hlt)
        obtain ⟨b2, o2, rfl, hl2, hc2⟩ := hB.get (k := k) (by rw [HM.out]; exact hlt)
        have hnx : ∀ (l : List Int) (h : k < l.length), l.take (k + 1) = l.take k ++ [l[k]] := fun l h => by rw [List.take_add_one, List.getElem?_eq_getElem h]; rfl
        have hx1 := hnx xs (by rw [HN.out]; exact hlt)
        have hx2 := hnx ys (by rw [HM.out]; exact hlt)
        have hne : xs[k]'(by rw [HN.out]; exact hlt) ≠ ys[k]'(by rw [HM.out]; exact hlt) → decide (xs = ys) = false := by
          intro h
          simp only [decide_eq_false_iff_not]
          intro e
          subst e
          exact h rfl
        generalize xs[k]'(by rw [HN.out]; exact hlt) = x at *
        generalize ys[k]'(by rw [HM.out]; exact hlt) = y at *
        have HT := Lib.hid ht
        have HX1 := Lib.hid hx1
        have HX2 := Lib.hid hx2
        clear hx1 hx2 hnx ht
        by_cases hxy : x = y
        · subst hxy
          clear hne
          go_wp2
          go_quiet (fail)
          go_wp2
          go_roundw
          case rel => exact ⟨k + 1, by omega, by go_num, by rw [HX1.out, HX2.out, HT.out], _, rfl⟩
          case measure => simp [intOf]; omega
        · have hd := hne hxy
          have hb1 : (x == y) = false := by simpa using hxy
          have hb2 : (x != y) = true := by simpa using hxy
          have HD := Lib.hid hd
          clear hd hne
          go_wp2
          go_quiet (fail)
          go_wp2
          go_ret
          exact ⟨by rw [HD.out]; rfl, _, drewN2 _ _ _⟩
      · obtain rfl : k = n := by omega
        have hd : decide (xs = ys) = true := by
          rw [List.take_of_length_le (by rw [HN.out]; omega), List.take_of_length_le (by rw [HM.out]; omega)] at ht
          simpa using ht
        have HD := Lib.hid hd
        clear hd ht
        go_wp2
        go_ret
        exact ⟨by rw [HD.out]; rfl, _, rfl⟩
  · have hd : decide (xs = ys) = false := by
      simp only [decide_eq_false_iff_not]
      intro e
      subst e
      omega
    rw [hd]
    have h1 : (n == m) = false := by simpa using hnm
    have h2 : ((n : Int) == (m : Int)) = false := by simp; omega
    go_enter Try.func23, Try.ntmps23
    go_wp2
    go_ret
    exact ⟨rfl, 0, rfl⟩

set_option maxRecDepth 100000 in
set_option maxHeartbeats 800000 in
/-- The law's cut. -/
theorem cut_any (A : Option Addr) (n c : Nat) (N : Int) (m : Nat) (xs : List Int) (w : World) (hA : Ints w A xs) (hn : xs.length = n) (hnc : n ≤ c) (hN : N = (m : Int)) (hm : m ≤ 1000) (hnil : A = none → c = 0) :
    Calls Try.prog 17 #[.slice A n c, .int .i64 N] w (RetInts (xs.take m) w) := by
  subst hN
  have hown0 : ∀ W : World, W = w.alloc (.cells #[] 3) → OwnI W w.heap.size (.slice (some ⟨w.heap.size, 0, none⟩) 0 0) 0 [] := fun W hW => by
    subst hW
    exact World.ownsRow_lit w #[] 0 (Nat.le_refl _) (by simp [maxLen]) rfl
  cases A with
  | none =>
    have hc0 : c = 0 := hnil rfl
    subst hc0
    have hn0 : n = 0 := by omega
    subst hn0
    have hx : xs = [] := List.eq_nil_of_length_eq_zero hn
    subst hx
    have h0 : min (0 : Int) (m : Int) = 0 := by omega
    have ho := (hown0 _ rfl).sli
    by_cases hm0 : m = 0
    · subst hm0
      go_enter Try.func17, Try.ntmps17
      go_wp2
      go_ret
      exact ⟨_, rfl, ho, (Below.refl _ _).alloc (Nat.le_refl _) _⟩
    · have hm1 : ¬ m < 0 := by omega
      have hm2 : 0 < m := by omega
      go_enter Try.func17, Try.ntmps17
      go_wp2
      go_ret
      exact ⟨_, rfl, by simpa using ho, (Below.refl _ _).alloc (Nat.le_refl _) _⟩
  | some a =>
    by_cases hlt : m < n
    · have e1 : (xs.take m).length = m := by simp; omega
      have hlt2 : (m : Int) < (n : Int) := by omega
      have hge : (m : Int) ≤ (c : Int) := by omega
      have hA2 : Ints (w.alloc (.cells #[] 3)) (some a) (xs.take m) := by
        rcases hA.alloc (.cells #[] 3) with h | ⟨b, off, h1, h2, h3⟩
        · exact .inl (by rw [List.map_take, h]; simp)
        · refine .inr ⟨b, off, h1, h2, fun j v hj => h3 j v ?_⟩
          rw [List.map_take, List.getElem?_take] at hj
          split at hj
          · exact hj
          · cases hj
      have HL := Lib.hid hn
      clear hn
      generalize xs.take m = ys at *
      go_enter Try.func17, Try.ntmps17
      go_wp2_with (at_builtin; refine wpList_ints _ rfl _ _ rfl w.heap.size _ 0 [] rfl (hown0 _ rfl) a m c ys rfl hA2 e1 (by omega) (by simp) ?_)
      intro v' w1 ho hg
      have hb1 := ((Below.refl w.heap.size w).alloc (Nat.le_refl _) (.cells #[] 3)).grown hg (by simp) (by intro k hk; simp [Value.ownBlock] at hk; omega)
      clear hg
      go_wp2
      go_ret
      exact ⟨_, rfl, by simpa using ho.sli, hb1⟩
    · have e1 : xs.take m = xs := List.take_of_length_le (by omega)
      rw [e1]
      have hlt2 : ¬ ((m : Int) < (n : Int)) := by omega
      have hge : (n : Int) ≤ (c : Int) := by omega
      have hA2 := hA.alloc (.cells #[] 3)
      by_cases hmn : m = n
      · subst hmn
        have HL := Lib.hid hn
        clear hn
        go_enter Try.func17, Try.ntmps17
        go_wp2_with (at_builtin; refine wpList_ints _ rfl _ _ rfl w.heap.size _ 0 [] rfl (hown0 _ rfl) a m c xs rfl hA2 HL.out (by omega) (by simp) ?_)
        intro v' w1 ho hg
        have hb1 := ((Below.refl w.heap.size w).alloc (Nat.le_refl _) (.cells #[] 3)).grown hg (by simp) (by intro k hk; simp [Value.ownBlock] at hk; omega)
        clear hg
        go_wp2
        go_ret
        exact ⟨_, rfl, by simpa using ho.sli, hb1⟩
      · have hgt : n < m := by omega
        have hgt2 : (n : Int) < (m : Int) := by omega
        have HL := Lib.hid hn
        clear hn
        go_enter Try.func17, Try.ntmps17
        go_wp2_with (at_builtin; refine wpList_ints _ rfl _ _ rfl w.heap.size _ 0 [] rfl (hown0 _ rfl) a n c xs rfl hA2 HL.out (by omega) (by simp) ?_)
        intro v' w1 ho hg
        have hb1 := ((Below.refl w.heap.size w).alloc (Nat.le_refl _) (.cells #[] 3)).grown hg (by simp) (by intro k hk; simp [Value.ownBlock] at hk; omega)
        clear hg
        go_wp2
        go_ret
        exact ⟨_, rfl, by simpa using ho.sli, hb1⟩

theorem readR_live : readR 5 2 [1, 2, 0, 4] = ([1, 1], 1, 0) := by decide +kernel
theorem membersR_live : membersR 3 2 3 5 = ([2, 3, 7], 0) := by decide +kernel
theorem invR_live : invR 7 3 = (5, 0) := by decide +kernel
end Go.Proofs.Ytneliejncfncdaa

namespace Go.Proofs.Ytneliejncfncdaa
open Go.RowKit

/-- A new block of numbers. -/
theorem ints_new (w : World) (xs : List Int) (cs : Array Value) (h : cs.toList = xs.map (Value.int .i64)) : Ints (w.alloc (.cells cs 3)) (some ⟨w.heap.size, 0, none⟩) xs := by
  refine .inr ⟨w.heap.size, 0, rfl, by simp, fun j v hj => ?_⟩
  rw [← h] at hj
  rw [cell_of_row _ _ _ cs 3 (0, 0) (heap_alloc_new w _), Nat.zero_add]
  simpa using hj

theorem ints_newAt (w : World) (xs : List Int) (cs : Array Value) (B : Nat) (hB : w.heap.size = B) (h : cs.toList = xs.map (Value.int .i64)) : Ints (w.alloc (.cells cs 3)) (some ⟨B, 0, none⟩) xs := by
  subst hB
  exact ints_new w xs cs h

def Said (b : Bool) (w : World) (e : Ending) (w' : World) : Prop := e = .returned (.bool b) ∧ Below w.heap.size w w'

set_option maxRecDepth 100000 in
set_option maxHeartbeats 1600000 in
theorem lives_any (w : World) : Calls Try.prog 21 #[] w (Said true w) := by
  have c30 : ∀ W, Calls Try.prog 30 #[.int .i64 7, .int .i64 3] W fun e w' => e = .returned (.tuple #[.int .i64 5, .int .i64 0]) ∧ Below W.heap.size W w' := fun W => by
    have := inverse_ret 7 3 W
    rwa [invR_live] at this
  have c27 : ∀ W, Calls Try.prog 27 #[.agg #[.int .i64 3, .int .i64 2, .int .i64 3], .int .i64 5] W (Ret2 [2, 3, 7] 0 W) := fun W => by
    have := Members_any 3 2 3 5 W
    rwa [membersR_live] at this
  have c18 : ∀ (W : World) A c, Ints W A [1, 2, 0, 4] → Calls Try.prog 18 #[.int .i64 5, .int .i64 2, .slice A 4 c] W (Ret3 [1, 1] 1 0 W) := fun W A c h => by
    have := read_ret 5 2 A c [1, 2, 0, 4] W h (by simp)
    rwa [readR_live] at this
  have c23 : ∀ (W : World) A B c d, Ints W A [2, 3, 7] → Ints W B [2, 3, 7] → Calls Try.prog 23 #[.slice A 3 c, .slice B 3 d] W fun e w' => e = .returned (.bool true) ∧ ∃ k, w' = W.drewN k := fun W A B c d h1 h2 => by
    have := lawsame_any A B 3 3 c d [2, 3, 7] [2, 3, 7] W h1 h2 rfl rfl (by omega) (by omega)
    simpa using this
  have c23' : ∀ (W : World) A B c d, Ints W A [1, 1] → Ints W B [1, 1] → Calls Try.prog 23 #[.slice A 2 c, .slice B 2 d] W fun e w' => e = .returned (.bool true) ∧ ∃ k, w' = W.drewN k := fun W A B c d h1 h2 => by
    have := lawsame_any A B 2 2 c d [1, 1] [1, 1] W h1 h2 rfl rfl (by omega) (by omega)
    simpa using this
  go_enter Try.func21, Try.ntmps21
  go_wp2_with fail
  refine (c30 _).mono ?_
  rintro e w1 ⟨rfl, hb1⟩
  go_wp2_with fail
  refine (c27 _).mono ?_
  rintro e w2 ⟨v2, rfl, hs2, hb2⟩
  obtain ⟨A2, cc2, rfl, _, _, _, hI2⟩ := hs2
  go_wp2_with fail
  refine (c18 _ _ _ (ints_new _ _ _ rfl)).mono ?_
  rintro e w3 ⟨v3, rfl, hs3, _, hb3⟩
  obtain ⟨A3, cc3, rfl, _, _, _, hI3⟩ := hs3
  have hI2' := Ints.below hI2 (((Below.refl _ _).alloc (Nat.le_refl _) (.cells #[.int .i64 1, .int .i64 2, .int .i64 0, .int .i64 4] 3)).trans (hb3.mono (by simp)))
  go_wp2_with fail
  refine (c23 _ _ _ _ _ (hI2'.alloc _) (ints_new _ _ _ rfl)).mono ?_
  rintro e w4 ⟨rfl, k4, rfl⟩
  go_wp2_with fail
  refine (c23' _ _ _ _ _ ((((hI3.alloc _).drewN k4)).alloc _) (ints_newAt _ _ _ _ (by simp) rfl)).mono ?_
  rintro e w5 ⟨rfl, k5, rfl⟩
  have hbf : Below w.heap.size w w3 := hb1.trans ((hb2.mono hb1.size).trans (((Below.refl _ _).alloc (Nat.le_refl _) (.cells #[.int .i64 1, .int .i64 2, .int .i64 0, .int .i64 4] 3)).trans (hb3.mono (by simp)) |>.mono (by have := hb1.size; have := hb2.size; omega)))
  have hsz := hbf.size
  go_wp2
  go_ret
  exact ⟨rfl, ((((hbf.alloc hsz _).drewN k4).alloc (by simp; omega) _).drewN k5)⟩
end Go.Proofs.Ytneliejncfncdaa

namespace Go.Proofs.Ytneliejncfncdaa
open Go.RowKit

theorem ret_bool {a b : Bool} (h : a = b) : Ending.returned (.bool a) = .returned (.bool b) := by rw [h]

theorem in_any (v lo hi : Int) (w : World) : Calls Try.prog 63 #[.int .i64 v, .int .i64 lo, .int .i64 hi] w fun e w' => e = .returned (.bool (decide (lo ≤ v) && decide (v ≤ hi))) ∧ w' = w := by
  cases h1 : decide (lo ≤ v) with
  | false =>
    go_enter Try.func63, Try.ntmps63
    go_wp2
    go_ret
    exact ⟨rfl, rfl⟩
  | true =>
    cases h2 : decide (v ≤ hi) with
    | false =>
      go_enter Try.func63, Try.ntmps63
      go_wp2
      go_ret
      exact ⟨rfl, rfl⟩
    | true =>
      go_enter Try.func63, Try.ntmps63
      go_wp2
      go_ret
      exact ⟨rfl, rfl⟩

theorem in_yes (v lo hi : Int) (w : World) (h1 : lo ≤ v) (h2 : v ≤ hi) : Calls Try.prog 63 #[.int .i64 v, .int .i64 lo, .int .i64 hi] w fun e w' => e = .returned (.bool true) ∧ w' = w := by
  have := in_any v lo hi w
  rwa [decide_eq_true h1, decide_eq_true h2] at this
theorem in_no (v lo hi : Int) (w : World) (h : ¬ (lo ≤ v ∧ v ≤ hi)) : Calls Try.prog 63 #[.int .i64 v, .int .i64 lo, .int .i64 hi] w fun e w' => e = .returned (.bool false) ∧ w' = w := by
  have := in_any v lo hi w
  rwa [show (decide (lo ≤ v) && decide (v ≤ hi)) = false by simp; omega] at this

theorem prime_div : ∀ q : Fin 32, ∀ d : Fin 32, 2 ≤ d.val → d.val < q.val → q.val % d.val = 0 → primeB (q.val : Int) = false := by decide +kernel
theorem prime_nodiv : ∀ q : Fin 32, 2 ≤ q.val → (∀ d : Fin 32, 2 ≤ d.val → d.val < q.val → q.val % d.val ≠ 0) → primeB (q.val : Int) = true := by decide +kernel

set_option maxHeartbeats 800000 in
theorem refPrime_any (q : Int) (w : World) : Calls Try.prog 19 #[.int .i64 q] w fun e w' => e = .returned (.bool (primeB q)) ∧ w' = w := by
  by_cases hq : 2 ≤ q ∧ q ≤ 31
  · obtain ⟨hq1, hq2⟩ := hq
    obtain ⟨n, rfl⟩ : ∃ n : Nat, q = n := ⟨q.toNat, by omega⟩
    go_enter Try.func19, Try.ntmps19
    go_wp2_with (go_at_call 63; refine (in_yes _ _ _ _ hq1 hq2).mono ?_; rintro e w' ⟨rfl, rfl⟩)
    go_loop [3] (fun s => ∃ k : Nat, 2 ≤ k ∧ k ≤ n ∧ s = .int .i64 k ∧ ∀ d : Nat, 2 ≤ d → d < k → n % d ≠ 0) (fun s => n - (intOf s).toNat)
    case atStart => exact ⟨2, by omega, by omega, rfl, by intro d h1 h2; omega⟩
    case round =>
      obtain ⟨k, hk2, hk, rfl, hd⟩ := hrel
      by_cases hlt : k < n
      · by_cases hm : n % k = 0
        · have hf := prime_div ⟨n, by omega⟩ ⟨k, by omega⟩ hk2 hlt hm
          simp only at hf
          have hm2 : (n : Int) % (k : Int) = 0 := by omega
          have hb : ((n : Int) % (k : Int) == 0) = true := by simp [hm2]
          have hne : ¬ ((k : Int) = 0) := by omega
          have hne2 : ¬ (k = 0) := by omega
          have HF := Lib.hid hf
          clear hf hd
          go_wp2
          go_ret
          exact ⟨ret_bool HF.out.symm, rfl⟩
        · have hm2 : ¬ ((n : Int) % (k : Int) = 0) := by omega
          have hb : ((n : Int) % (k : Int) == 0) = false := by simp [hm2]
          have hne : ¬ ((k : Int) = 0) := by omega
          have hne2 : ¬ (k = 0) := by omega
          have HD := Lib.hid hd
          have HM := Lib.hid hm
          clear hd
          go_wp2
          go_round
          case rel => exact ⟨k + 1, by omega, by omega, by go_num, fun d h1 h2 => by
            by_cases e : d = k
            · subst e; exact HM.out
            · exact HD.out d h1 (by omega)⟩
          case measure => simp [intOf]; omega
      · obtain rfl : k = n := by omega
        have hf := prime_nodiv ⟨k, by omega⟩ hk2 (fun d h1 h2 => hd d.val h1 h2)
        simp only at hf
        have HF := Lib.hid hf
        clear hf hd
        go_wp2
        go_ret
        exact ⟨ret_bool HF.out.symm, rfl⟩
  · have hf : primeB q = false := primeB_false (by omega)
    rw [hf]
    go_enter Try.func19, Try.ntmps19
    go_wp2_with (go_at_call 63; refine (in_no _ _ _ _ hq).mono ?_; rintro e w' ⟨rfl, rfl⟩)
    go_ret
    exact ⟨rfl, rfl⟩

set_option maxHeartbeats 800000 in
theorem refElements_any (q : Int) (A : Option Addr) (c n : Nat) (l : List Int) (w : World) (hq : 2 ≤ q ∧ q ≤ 31) (hA : Ints w A l) (hn : l.length = n) (hb : n ≤ 1000000) :
    Calls Try.prog 20 #[.int .i64 q, .slice A n c] w fun e w' => e = .returned (.bool (elemB q l)) ∧ w' = w := by
  obtain ⟨hq1, hq2⟩ := hq
  have HN := Lib.hid hn
  clear hn
  go_enter Try.func20, Try.ntmps20
  go_wp2
  go_loop [5] (fun s => ∃ k : Nat, k ≤ n ∧ s = .int .i64 k ∧ elemB q (l.take k) = true) (fun s => n - (intOf s).toNat)
  case atStart => exact ⟨0, by omega, rfl, rfl⟩
  case round =>
    obtain ⟨k, hk, rfl, ht⟩ := hrel
    by_cases hlt : k < n
    · obtain ⟨b, o, rfl, hl, hc⟩ := hA.get (k := k) (by rw [HN.out]; exact hlt)
      have hkl : k < l.length := by rw [HN.out]; exact hlt
      have hx : l.take (k + 1) = l.take k ++ [l[k]] := by rw [List.take_add_one, List.getElem?_eq_getElem hkl]; rfl
      have hbad : ¬ (0 ≤ l[k] ∧ l[k] ≤ q - 1) → elemB q l = false := fun h => by
        rw [← Bool.not_eq_true]
        intro h2
        have := elem_get h2 (k := k) hkl
        omega
      generalize l[k] = x at *
      have HX := Lib.hid hx
      have HT := Lib.hid ht
      clear hx ht
      by_cases hin : 0 ≤ x ∧ x ≤ q - 1
      · have HIN := Lib.hid hin
        clear hbad hin
        go_wp2_with (go_at_call 63; refine (in_yes _ _ _ _ HIN.out.1 HIN.out.2).mono ?_; rintro e w' ⟨rfl, rfl⟩)
        go_round
        case rel => exact ⟨k + 1, by omega, by go_num, by rw [HX.out]; exact elemB_append HT.out (by have := HIN.out; simp [elemB]; omega)⟩
        case measure => simp [intOf]; omega
      · have HB := Lib.hid (hbad hin)
        have HIN := Lib.hid hin
        clear hbad hin
        go_wp2_with (go_at_call 63; refine (in_no _ _ _ _ HIN.out).mono ?_; rintro e w' ⟨rfl, rfl⟩)
        go_ret
        exact ⟨ret_bool HB.out.symm, rfl⟩
    · obtain rfl : k = n := by omega
      have hf : elemB q l = true := by rwa [List.take_of_length_le (by rw [HN.out]; omega)] at ht
      have HF := Lib.hid hf
      clear hf ht
      go_wp2
      go_ret
      exact ⟨ret_bool HF.out.symm, rfl⟩

/-- The inverse, by trial. -/
theorem inv_facts : ∀ q : Fin 32, primeB (q.val : Int) = true → ∀ a : Fin 32, 1 ≤ a.val → a.val < q.val →
    1 ≤ pw q.val a.val (q.val - 2 : Nat) ∧ ((a.val : Int) * pw q.val a.val (q.val - 2 : Nat) % (q.val : Int) = 1) ∧ ∀ b : Fin 32, 1 ≤ b.val → (b.val : Int) < pw q.val a.val (q.val - 2 : Nat) → ¬ ((a.val : Int) * b.val % (q.val : Int) = 1) := by decide +kernel

set_option maxHeartbeats 800000 in
theorem refInverse_any (q a : Int) (w : World) (hq : primeB q = true) (ha : 1 ≤ a ∧ a < q) : Calls Try.prog 33 #[.int .i64 q, .int .i64 a] w fun e w' => e = .returned (.int .i64 (pw q a (q - 2).toNat)) ∧ w' = w := by
  have hp := prime_bd hq
  obtain ⟨hq1, hq2⟩ := hp
  obtain ⟨ha1, ha2⟩ := ha
  obtain ⟨n, rfl⟩ : ∃ n : Nat, q = n := ⟨q.toNat, by omega⟩
  obtain ⟨m, rfl⟩ : ∃ m : Nat, a = m := ⟨a.toNat, by omega⟩
  have hf := inv_facts ⟨n, by omega⟩ hq ⟨m, by omega⟩ (by simp; omega) (by simp; omega)
  simp only at hf
  have e : ((n : Int) - 2).toNat = n - 2 := by omega
  rw [e]
  have hb := pw_bd (q := (n : Int)) (a := (m : Int)) hq1 (n - 2)
  generalize pw n m (n - 2) = i at *
  obtain ⟨f1, f2, f3⟩ := hf
  obtain ⟨b1, b2⟩ := hb
  have F2 := Lib.hid f2
  have F3 := Lib.hid f3
  clear f2 f3 e
  go_enter Try.func33, Try.ntmps33
  go_wp2
  go_loop [5] (fun s => ∃ k : Nat, 1 ≤ k ∧ (k : Int) ≤ i ∧ s = .int .i64 k) (fun s => (i - intOf s).toNat)
  case atStart => exact ⟨1, by omega, by omega, rfl⟩
  case round =>
    obtain ⟨k, hk1, hk2, rfl⟩ := hrel
    have hmb : 0 ≤ (m : Int) * (k : Int) ∧ (m : Int) * (k : Int) ≤ 31 * 31 := ⟨Int.mul_nonneg (by omega) (by omega), Int.mul_le_mul (by omega) (by omega) (by omega) (by omega)⟩
    obtain ⟨hm1, hm2⟩ := hmb
    have hn0 : ¬ ((n : Int) = 0) := by omega
    have hn1 : ¬ (n = 0) := by omega
    by_cases hlt : (k : Int) < i
    · have hne := F3.out ⟨k, by omega⟩ (by simpa using hk1) (by simpa using hlt)
      simp only at hne
      have hb1 : ((m : Int) * (k : Int) % (n : Int) == 1) = false := by simpa using hne
      have hb2 : ((m : Int) * (k : Int) % (n : Int) != 1) = true := by simpa using hne
      clear hne
      have hw : IntKind.i64.wrap ((m : Int) * (k : Int)) = (m : Int) * (k : Int) := IntWalk.i64_in _ (by omega)
      go_wp2
      go_round
      case rel => exact ⟨k + 1, by omega, by omega, by go_num⟩
      case measure => simp [intOf]; omega
    · obtain rfl : i = (k : Int) := by omega
      have hb1 : ((m : Int) * (k : Int) % (n : Int) == 1) = true := by simpa using F2.out
      have hb2 : ((m : Int) * (k : Int) % (n : Int) != 1) = false := by simpa using F2.out
      have hw : IntKind.i64.wrap ((m : Int) * (k : Int)) = (m : Int) * (k : Int) := IntWalk.i64_in _ (by omega)
      go_wp2
      go_ret
      exact ⟨rfl, rfl⟩
end Go.Proofs.Ytneliejncfncdaa

namespace Go.Proofs.Ytneliejncfncdaa
open Go.RowKit

/-- A polynomial's value over the integers. -/
def pe (x : Int) : List Int → Int
  | [] => 0
  | c :: cs => c + x * pe x cs
theorem emod_near (q a : Int) : ∃ k, a % q = a + q * k := ⟨-(a / q), by have := Int.emod_add_mul_ediv a q; grind⟩
theorem hv_near (q x : Int) : ∀ l, ∃ k, hv q x l = pe x l + q * k
  | [] => ⟨0, by simp [hv, pe]⟩
  | c :: cs => by
    obtain ⟨k, hk⟩ := hv_near q x cs
    obtain ⟨k1, h1⟩ := emod_near q (hv q x cs * x)
    obtain ⟨k2, h2⟩ := emod_near q (hv q x cs * x % q + c)
    refine ⟨k * x + k1 + k2, ?_⟩
    rw [hv, pe, h2, h1, hk]
    grind
theorem pw_near (q x : Int) : ∀ n, ∃ k, pw q x n = x ^ n + q * k
  | 0 => ⟨0, by simp [pw]⟩
  | n + 1 => by
    obtain ⟨k, hk⟩ := pw_near q x n
    obtain ⟨k1, h1⟩ := emod_near q (pw q x n * x)
    refine ⟨k * x + k1, ?_⟩
    rw [pw, h1, hk, Int.pow_succ]
    grind
theorem pe_append (x c : Int) : ∀ l, pe x (l ++ [c]) = pe x l + c * x ^ l.length
  | [] => by simp [pe]
  | d :: l => by
    have := pe_append x c l
    simp only [List.cons_append, pe, this, List.length_cons, Int.pow_succ]
    grind
theorem near_eq {q a b k : Int} (ha : 0 ≤ a ∧ a < q) (hb : 0 ≤ b ∧ b < q) (h : a = b + q * k) : a = b := by
  have h1 : a % q = a := Int.emod_eq_of_lt ha.1 ha.2
  have h2 : b % q = b := Int.emod_eq_of_lt hb.1 hb.2
  rw [← h1, ← h2, h]
  simp

/-- The reference's sum. -/
def sv (q x : Int) (l : List Int) : Nat → Int
  | 0 => 0
  | k + 1 => (sv q x l k + l.getD k 0 * pw q x k) % q
theorem sv_bd {q : Int} (hq : 1 ≤ q) (x : Int) (l : List Int) : ∀ k, 0 ≤ sv q x l k ∧ sv q x l k < q
  | 0 => ⟨Int.le_refl _, by simp [sv]; omega⟩
  | _ + 1 => ⟨Int.emod_nonneg _ (by omega), Int.emod_lt_of_pos _ (by omega)⟩
theorem sv_near (q x : Int) (l : List Int) : ∀ n, n ≤ l.length → ∃ k, sv q x l n = pe x (l.take n) + q * k
  | 0, _ => ⟨0, by simp [sv, pe]⟩
  | n + 1, hn => by
    obtain ⟨k, hk⟩ := sv_near q x l n (by omega)
    obtain ⟨k1, h1⟩ := pw_near q x n
    obtain ⟨k2, h2⟩ := emod_near q (sv q x l n + l.getD n 0 * pw q x n)
    have hx : l.take (n + 1) = l.take n ++ [l.getD n 0] := by
      rw [List.take_add_one, List.getElem?_eq_getElem (by omega)]
      simp [List.getD, show n < l.length by omega]
    have hl : (l.take n).length = n := by simp; omega
    refine ⟨k + l.getD n 0 * k1 + k2, ?_⟩
    rw [sv, h2, hx, pe_append, hl, hk, h1]
    grind
theorem sv_hv {q : Int} (hq : 1 ≤ q) (x : Int) (l : List Int) : sv q x l l.length = hv q x l := by
  obtain ⟨k, hk⟩ := sv_near q x l l.length (Nat.le_refl _)
  obtain ⟨k1, h1⟩ := hv_near q x l
  rw [List.take_length] at hk
  exact near_eq (k := k - k1) (sv_bd hq x l _) (hv_bd hq l) (by rw [hk, h1]; grind)

set_option maxHeartbeats 800000 in
theorem refValue_any (q x : Int) (A : Option Addr) (c n : Nat) (l : List Int) (w : World) (hq : 2 ≤ q ∧ q ≤ 31) (hx : 0 ≤ x ∧ x ≤ 1000) (hl : elemB q l = true) (hA : Ints w A l) (hn : l.length = n) (hb : n ≤ 1000000) :
    Calls Try.prog 34 #[.int .i64 q, .slice A n c, .int .i64 x] w fun e w' => e = .returned (.int .i64 (hv q x l)) ∧ w' = w := by
  obtain ⟨hq1, hq2⟩ := hq
  obtain ⟨hx1, hx2⟩ := hx
  have hs := sv_hv (q := q) (by omega) x l
  rw [hn] at hs
  have HS := Lib.hid hs
  have HN := Lib.hid hn
  clear hn hs
  go_enter Try.func34, Try.ntmps34
  go_wp2
  go_loop [7, 8, 9] (fun s p i => ∃ k : Nat, k ≤ n ∧ i = .int .i64 k ∧ s = .int .i64 (sv q x l k) ∧ p = .int .i64 (pw q x k)) (fun _ _ i => n - (intOf i).toNat)
  case atStart => exact ⟨0, by omega, rfl, rfl, rfl⟩
  case round =>
    obtain ⟨k, hk, rfl, rfl, rfl⟩ := hrel
    by_cases hlt : k < n
    · obtain ⟨b, o, rfl, hbl, hc⟩ := hA.get (k := k) (by rw [HN.out]; exact hlt)
      have hkl : k < l.length := by rw [HN.out]; exact hlt
      have hy := elem_get hl (k := k) hkl
      have hs1 : sv q x l (k + 1) = (sv q x l k + l[k] * pw q x k) % q := by rw [sv]; simp [List.getD, hkl]
      have hp1 : pw q x (k + 1) = pw q x k * x % q := rfl
      have hsb := sv_bd (q := q) (by omega) x l k
      have hpb := pw_bd (q := q) (a := x) hq1 k
      generalize l[k] = y at *
      have HS1 := Lib.hid hs1
      have HP1 := Lib.hid hp1
      clear hs1 hp1
      generalize sv q x l k = s at *
      generalize pw q x k = p at *
      obtain ⟨hy1, hy2⟩ := hy
      obtain ⟨hsb1, hsb2⟩ := hsb
      obtain ⟨hpb1, hpb2⟩ := hpb
      have m1 : 0 ≤ y * p := Int.mul_nonneg hy1 hpb1
      have m2 : y * p ≤ 31 * 31 := Int.mul_le_mul (by omega) (by omega) (by omega) (by omega)
      have m3 : 0 ≤ p * x := Int.mul_nonneg hpb1 hx1
      have m4 : p * x ≤ 31 * 1000 := Int.mul_le_mul (by omega) (by omega) (by omega) (by omega)
      have hw1 : IntKind.i64.wrap (y * p) = y * p := IntWalk.i64_in _ (by omega)
      have hw2 : IntKind.i64.wrap (s + y * p) = s + y * p := IntWalk.i64_in _ (by omega)
      have hw3 : IntKind.i64.wrap (p * x) = p * x := IntWalk.i64_in _ (by omega)
      have hq0 : ¬ q = 0 := by omega
      go_wp2
      go_round
      case rel => exact ⟨k + 1, by omega, by go_num, by rw [HS1.out], by rw [HP1.out]⟩
      case measure => simp [intOf]; omega
    · obtain rfl : k = n := by omega
      go_wp2
      go_ret
      exact ⟨ret_int (by rw [HS.out]), rfl⟩
end Go.Proofs.Ytneliejncfncdaa
