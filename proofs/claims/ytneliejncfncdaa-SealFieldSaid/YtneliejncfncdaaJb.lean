/- The law SealField: the walk. -/
import Derived.Test.YtneliejncfncdaaJa
import Derived.Test.YtneliejncfncdaaIb
import Derived.Deep.DeepCutAuto
import Derived.StillTailTactics
namespace Go.Proofs.Ytneliejncfncdaa
open Go.RowKit

theorem OwnI.lie {w : World} {base n : Nat} {v : Value} {xs : List Int} (h : OwnI w base v n xs) : ∃ A c, v = .slice A n c ∧ Ints w A xs := by
  have hl := h.len
  subst hl
  obtain ⟨A, c, hv, _, _, _, hA⟩ := h.sli
  exact ⟨A, c, hv, hA⟩
theorem SlI.lieN {w : World} {v : Value} {xs : List Int} (h : SlI w v xs) : ∃ A c, v = .slice A xs.length c ∧ Ints w A xs ∧ (A = none → c = 0 ∧ xs = []) := by
  obtain ⟨A, c, hv, h1, _, h3, h4⟩ := h
  exact ⟨A, c, hv, h4, fun h => ⟨h3 h, List.eq_nil_of_length_eq_zero (by have := h3 h; omega)⟩⟩
theorem horner_step (q x s c : Int) : (s * x + c) % q = (s * x % q + c) % q := by simp

section
variable (n0 n1 : Int) (A : Option Addr) (cA nA : Nat) (xs : List Int) (B : Option Addr) (cB nB : Nat) (ys : List Int) (w : World)

set_option maxRecDepth 100000 in
set_option maxHeartbeats 3200000 in
theorem field_any (h0 : I64 n0) (h1 : I64 n1) (hA : Ints w A xs) (hn : xs.length = nA) (_ : nA ≤ cA) (_ : A = none → cA = 0) (hx : ∀ x ∈ xs, I64 x) (hB : Ints w B ys) (hm : ys.length = nB) (_ : nB ≤ cB) (_ : B = none → cB = 0) (hy : ∀ x ∈ ys, I64 x) :
    Calls Try.prog 6 #[.agg #[.int .i64 n0, .int .i64 n1], .slice A nA cA, .slice B nB cB] w (Said true w) := by
  have hqp := ordP_prime n0
  have c35 : ∀ W, Calls Try.prog 35 #[.int .i64 n0] W fun e w' => e = .returned (.int .i64 (ordP n0)) ∧ Below W.heap.size W w' := fun W => order_any n0 W h0
  generalize ordP n0 = q at *
  have hqb := prime_bd hqp
  obtain ⟨hq1, hq2⟩ := hqb
  have c26 : ∀ W, Calls Try.prog 26 #[.int .i64 n1, .int .i64 q] W fun e w' => e = .returned (.int .i64 (n1 % q)) ∧ W = w' := fun W => (fold_any n1 q W h1 ⟨by omega, by omega⟩).mono fun e w' h => ⟨h.1, h.2.symm⟩
  have ht1 := Int.emod_nonneg n1 (show q ≠ 0 by omega)
  have ht2 := Int.emod_lt_of_pos n1 (show 0 < q by omega)
  generalize n1 % q = t at *
  have c36a : ∀ W, Ints W A xs → Calls Try.prog 36 #[.int .i64 q, .slice A nA cA, .int .i64 q] W (RetInts (folds q (xs.take q.toNat)) W) := fun W h => by
    have := elements_law q A cA nA q.toNat xs W ⟨hq1, hq2⟩ hx h hn (by omega)
    rwa [show ((q.toNat : Nat) : Int) = q by omega] at this
  have c36b : ∀ W, Ints W B ys → Calls Try.prog 36 #[.int .i64 q, .slice B nB cB, .int .i64 q] W (RetInts (folds q (ys.take q.toNat)) W) := fun W h => by
    have := elements_law q B cB nB q.toNat ys W ⟨hq1, hq2⟩ hy h hm (by omega)
    rwa [show ((q.toNat : Nat) : Int) = q by omega] at this
  have hae := folds_elem (q := q) (by omega) (xs.take q.toNat)
  have hbe := folds_elem (q := q) (by omega) (ys.take q.toNat)
  have hal : (folds q (xs.take q.toNat)).length ≤ q.toNat := by rw [folds_length]; simp; omega
  have hbl : (folds q (ys.take q.toNat)).length ≤ q.toNat := by rw [folds_length]; simp; omega
  generalize folds q (xs.take q.toNat) = a at *
  generalize folds q (ys.take q.toNat) = b at *
  have hB0 : Below w.heap.size w (w.alloc (.cells #[.int .i64 n0, .int .i64 n1] 48)) := (Below.refl _ _).alloc (Nat.le_refl _) _
  have HN := Lib.hid hn
  have HM := Lib.hid hm
  clear hn hm hx hy h0 h1
  go_enter Try.func6, Try.ntmps6
  go_wp2_with fail
  refine (c35 _).mono ?_
  rintro e w1 ⟨rfl, hb1⟩
  have hB1 := hB0.trans (hb1.mono (by simp))
  have k1 := hb1.cell (p := ⟨w.heap.size, 1, none⟩) (by simp)
  simp [go_sem] at k1
  have hs1 := hb1.size
  simp at hs1
  go_wp2_with (go_at_call 26; refine (c26 _).mono ?_; rintro e w' ⟨rfl, rfl⟩)
  refine (c36a _ (hA.below hB1)).mono ?_
  rintro e w2 ⟨v2, rfl, hs2, hb2⟩
  obtain ⟨A2, c2, rfl, hI2, hnil⟩ := hs2.lieN
  have hB2 := hB1.trans (hb2.mono (by omega))
  go_wp2_with fail
  refine (c36b _ (hB.below hB2)).mono ?_
  rintro e w3 ⟨v3, rfl, hs3, hb3⟩
  obtain ⟨A3, c3, rfl, hJ3⟩ := hs3.lieA rfl
  have hI3 := Ints.below hI2 hb3
  have hB3 := hB2.trans (hb3.mono (by have := hb2.size; omega))
  clear hI2 hB2 hB1 hb1 hb2 hb3 k1 hs1 c35 c26 c36a c36b hB0
  go_upto_region 4 with fail
  go_cut [11] (fun s11 wx => OwnI wx w3.heap.size s11 a.length a ∧ Below w3.heap.size w3 wx)
  case first =>
    have ho := ownI_lit w3 w3.heap.size (Nat.le_refl _)
    cases A2 with
    | none =>
      have hz := hnil rfl
      obtain ⟨rfl, rfl⟩ := hz
      go_wp2_with fail
      go_meet
      exact ⟨ho, (Below.refl _ _).alloc (Nat.le_refl _) _⟩
    | some ad =>
      go_wp2_with (at_builtin; refine wpList_ints _ rfl _ _ rfl w3.heap.size _ 0 [] rfl ho ad a.length c2 a rfl (hI3.alloc _) rfl (by omega) (by simp) ?_)
      intro v' w4 ho4 hg4
      have hb4 := ((Below.refl w3.heap.size w3).alloc (Nat.le_refl _) (.cells #[] 3)).grown hg4 (by simp) (by intro k hk; cases hk; exact Nat.le_refl _)
      have ho4 : OwnI w4 w3.heap.size v' a.length a := by simpa using ho4
      clear hg4
      go_wp2_with fail
      go_meet
      exact ⟨ho4, hb4⟩
  case rest =>
    obtain ⟨hown, hbl⟩ := hcut
    clear hnil
    obtain ⟨wo, rfl⟩ : ∃ wo, wo = w3 := ⟨_, rfl⟩
    go_wp2
    go_loopw [11, 12] (fun v i wr => ∃ k : Nat, k ≤ b.length ∧ i = .int .i64 k ∧ OwnI wr wo.heap.size v (sumL q a b k).length (sumL q a b k) ∧ Below wo.heap.size wo wr) (fun _ i _ => b.length - (intOf i).toNat)
    case atStart => exact ⟨0, by omega, rfl, hown, hbl⟩
    case round =>
      clear hown hbl
      obtain ⟨k, hk, rfl, hown, hbl⟩ := hrel
      have hsl := sumL_length q a b k
      have hse := sumL_elem (q := q) (by omega) hae hbe k
      have hss : sumL q a b (k + 1) = if k < (sumL q a b k).length then (sumL q a b k).set k (((sumL q a b k).getD k 0 + b.getD k 0) % q) else sumL q a b k ++ [b.getD k 0] := rfl
      have hJ := hJ3.below hbl
      have hs62 : (sumL q a b k).length ≤ 62 := by omega
      have HSN := Lib.hid hsl
      clear hsl
      by_cases hlt : k < b.length
      · obtain ⟨b3, o3, rfl, hb3, hc3⟩ := hJ.get hlt
        have hbk := elem_get hbe hlt
        rw [show b.getD k 0 = b[k] by simp [List.getD, hlt]] at hss
        generalize b[k] = y at *
        by_cases hka : k < (sumL q a b k).length
        · rw [if_pos hka] at hss
          have hsk := elem_get hse hka
          obtain ⟨g, cap, rfl, hg1, hg2⟩ := hown.form (by omega)
          have hcs := hown.get hka
          have hfz := hown.frozen k
          rw [show (sumL q a b k).getD k 0 = (sumL q a b k)[k] by simp [List.getD, hka]] at hss
          generalize (sumL q a b k)[k] = z at *
          have hsz : (sumL q a b (k + 1)).length = (sumL q a b k).length := by rw [hss, List.length_set]
          have HSS := Lib.hid hss
          have HSZ := Lib.hid hsz
          clear hss hsz
          generalize sumL q a b k = s at *
          have hw1 : IntKind.i64.wrap (z + y) = z + y := IntWalk.i64_in _ (by omega)
          have hq0 : ¬ q = 0 := by omega
          generalize hL : s.length = L at *
          have HL := Lib.hid hL
          clear hL
          go_wp2
          go_still_tail 14, (by kernel_rfl)
          change wpList _ _ _ _ _ wr.drew
          have hown1 : OwnI (wr.drew.setCell ⟨g, k, none⟩ (.int .i64 ((z + y) % q))) wo.heap.size (.slice (some ⟨g, 0, none⟩) L cap) L (s.set k ((z + y) % q)) := OwnI.set (w := wr.drew) hown k _
          have hbl1 : Below wo.heap.size wo (wr.drew.setCell ⟨g, k, none⟩ (.int .i64 ((z + y) % q))) := (below_drewN' hbl 1).setCell (by simpa using hg1) _
          clear hown hbl
          have hcs1 : wr.drew.cell? ⟨g, k, none⟩ = some (.int .i64 z) := hcs
          have hfz1 : wr.drew.frozen? ⟨g, k, none⟩ = false := hfz
          go_wp2
          go_roundw
          case rel => exact ⟨k + 1, by omega, by go_num, by rw [HSZ.out, HSS.out]; exact hown1, hbl1⟩
          case measure => simp [intOf]; omega
        · rw [if_neg hka] at hss
          have hsz : (sumL q a b (k + 1)).length = (sumL q a b k).length + 1 := by rw [hss, List.length_append]; rfl
          have HSS := Lib.hid hss
          have HSZ := Lib.hid hsz
          clear hss hsz hse
          generalize sumL q a b k = s at *
          obtain ⟨A5, c5, rfl, _⟩ := hown.lie
          generalize hL : s.length = L at *
          have HL := Lib.hid hL
          clear hL
          have hsz0 := hbl.size
          go_wp2_with (at_builtin; refine wpList_int _ rfl _ _ rfl wo.heap.size _ L s rfl (hown.alloc _) wr.heap.size y rfl (heap_alloc_new wr _) (by omega) (by simp; omega) (wr.heap.size + 1) (by simp) ?_)
          intro g cap w4 hown4 hgrow hat hlt4
          have hb4 := (hbl.alloc (o := .cells #[.int .i64 y] 3) hsz0).grown hgrow (by simp; omega) (fun g hg => (hown.lt g hg).1)
          clear hown hbl hgrow hat
          go_wp2
          go_roundw
          case rel => exact ⟨k + 1, by omega, by go_num, by rw [HSZ.out, HSS.out]; exact hown4, hb4⟩
          case measure => simp [intOf]; omega
      · obtain rfl : k = b.length := by omega
        clear hse hss hJ
        have hI4 := hI3.below hbl
        have hJ4 := hJ3.below hbl
        have hse := sumL_elem (q := q) (by omega) hae hbe b.length
        have hsl : (sumL q a b b.length).length ≤ q.toNat := by rw [sumL_length]; omega
        have hsv := sumL_hv (q := q) (by omega) t a b
        generalize sumL q a b b.length = s at *
        obtain ⟨A5, c5, rfl, hK4⟩ := hown.lie
        have hlq : ∀ l : List Int, l.length ≤ q.toNat → (l.length : Int) ≤ q := fun l h => by omega
        have c31 : ∀ (W : World) A c (l : List Int), Ints W A l → elemB q l = true → l.length ≤ q.toNat → Calls Try.prog 31 #[.int .i64 q, .slice A l.length c, .int .i64 t] W fun e w' => e = .returned (.tuple #[.int .i64 (hv q t l), .int .i64 0]) ∧ Below W.heap.size W w' := fun W A c l h1 h2 h3 => by
          have := value_ret q t A c l W h1 (by omega)
          have e : valueR q l t = (hv q t l, 0) := by
            have h4 : elemB q [t] = true := by unfold elemB; simp; omega
            unfold valueR; rw [hqp, h2, h4, decide_eq_true (hlq l h3)]; rfl
          rwa [e] at this
        have HSV := Lib.hid hsv
        clear hsv hown hlq
        have hB4 := hB3.trans (hbl.mono (by have := hB3.size; omega))
        clear hbl hB3 hI3 hJ3
        go_wp2_with fail
        refine (c31 _ _ _ _ hI4 hae hal).mono ?_
        rintro e w5 ⟨rfl, hb5⟩
        have hJ5 := hJ4.below hb5
        have hK5 := hK4.below hb5
        have hI5 := hI4.below hb5
        have hB5 := hB4.trans (hb5.mono hB4.size)
        go_wp2_with fail
        refine (c31 _ _ _ _ hJ5 hbe hbl).mono ?_
        rintro e w6 ⟨rfl, hb6⟩
        have hK6 := hK5.below hb6
        have hI6 := hI5.below hb6
        have hB6 := hB5.trans (hb6.mono hB5.size)
        have c31s := c31 _ _ c5 _ hK6 hse hsl
        rw [HSV.out] at c31s
        go_wp2_with fail
        refine c31s.mono ?_
        rintro e w7 ⟨rfl, hb7⟩
        have hI7 := hI6.below hb7
        have hB7 := hB6.trans (hb7.mono hB6.size)
        have hva := hv_bd (q := q) (x := t) (by omega) a
        have hvb := hv_bd (q := q) (x := t) (by omega) b
        clear c31 c31s hK6 hI6 hB6 hb7 hb6 hb5 hI5 hJ5 hK5 hB5 hI4 hJ4 hK4 hB4 HSV hse hsl
        generalize hv q t b = vb at *
        obtain ⟨va, hvaE⟩ : ∃ va, hv q t a = va := ⟨_, rfl⟩
        have HVA := Lib.hid hvaE
        rw [hvaE] at hva ⊢
        clear hvaE
        obtain ⟨hva1, hva2⟩ := hva
        obtain ⟨hvb1, hvb2⟩ := hvb
        have hw1 : IntKind.i64.wrap (va + vb) = va + vb := IntWalk.i64_in _ (by omega)
        have hq0 : ¬ q = 0 := by omega
        go_wp2
        go_loop [19, 20] (fun s i => ∃ k : Nat, k ≤ a.length ∧ i = .int .i64 ((k : Int) - 1) ∧ s = .int .i64 (hv q t (a.drop k))) (fun _ i => (intOf i + 1).toNat)
        case atStart => exact ⟨a.length, by omega, rfl, by simp [hv]⟩
        case round =>
          obtain ⟨k, hk, rfl, rfl⟩ := hrel
          rcases Nat.eq_zero_or_pos k with h0 | h0
          · subst h0
            rw [List.drop_zero, HVA.out]
            go_wp2_with fail
            refine (lives_any _).mono ?_
            rintro e w8 ⟨rfl, hb8⟩
            have hB8 := hB7.trans (hb8.mono hB7.size)
            clear hb8 hB7 hI7 hw1
            by_cases ht0 : t = 0
            · subst ht0
              have c30 : ∀ W, Calls Try.prog 30 #[.int .i64 q, .int .i64 0] W fun e w' => e = .returned (.tuple #[.int .i64 0, .int .i64 4]) ∧ Below W.heap.size W w' := fun W => by
                have := inverse_ret q 0 W
                have e : invR q 0 = (0, 4) := by
                  have h4 : elemB q [0] = true := by unfold elemB; simp; omega
                  unfold invR; rw [hqp, h4]; rfl
                rwa [e] at this
              go_wp2_with fail
              refine (c30 _).mono ?_
              rintro e w9 ⟨rfl, hb9⟩
              have hB9 := hB8.trans (hb9.mono hB8.size)
              go_wp2
              go_ret
              exact ⟨rfl, hB9⟩
            · have hf := inv_four hqp (a := t) ⟨by omega, by omega⟩
              have hie : ∀ z : Int, 1 ≤ z → z < q → invR q z = (pw q z (q - 2).toNat, 0) := fun z h1 h2 => by
                have h4 : elemB q [z] = true := by unfold elemB; simp; omega
                unfold invR; rw [hqp, h4]; simp only [Bool.and_self, if_true]; rw [if_neg (by omega)]
              have c30 : ∀ W, Calls Try.prog 30 #[.int .i64 q, .int .i64 t] W fun e w' => e = .returned (.tuple #[.int .i64 (pw q t (q - 2).toNat), .int .i64 0]) ∧ Below W.heap.size W w' := fun W => by
                have := inverse_ret q t W
                rwa [hie t (by omega) ht2] at this
              have c30b : ∀ W, Calls Try.prog 30 #[.int .i64 q, .int .i64 (pw q t (q - 2).toNat)] W fun e w' => e = .returned (.tuple #[.int .i64 t, .int .i64 0]) ∧ Below W.heap.size W w' := fun W => by
                have := inverse_ret q (pw q t (q - 2).toNat) W
                rw [hie _ hf.1 hf.2.1] at this
                simp only [hf.2.2.2] at this
                exact this
              obtain ⟨hf1, hf2, hf3, _⟩ := hf
              generalize pw q t (q - 2).toNat = z at *
              have hb0 : (t == 0) = false := by simpa using ht0
              have hz1 : decide (1 ≤ z) = true := decide_eq_true hf1
              have hz2 : decide (z < q) = true := decide_eq_true hf2
              have hm := mul_bd (q := q) (a := t) (b := z) ⟨ht1, by omega⟩ ⟨by omega, by omega⟩
              obtain ⟨hm1, hm2⟩ := hm
              have hw2 : IntKind.i64.wrap (t * z) = t * z := IntWalk.i64_in _ (by omega)
              clear hie
              go_wp2_with fail
              refine (c30 _).mono ?_
              rintro e w9 ⟨rfl, hb9⟩
              have hB9 := hB8.trans (hb9.mono hB8.size)
              go_wp2_with fail
              refine (c30b _).mono ?_
              rintro e w10 ⟨rfl, hb10⟩
              have hB10 := hB9.trans (hb10.mono hB9.size)
              go_wp2
              go_ret
              exact ⟨rfl, hB10⟩
          · obtain ⟨j, rfl⟩ : ∃ j, k = j + 1 := ⟨k - 1, by omega⟩
            have hj : j < a.length := by omega
            obtain ⟨b0, off, rfl, hb0, hc0⟩ := hI7.get hj
            have hd := drop_hv q t a j hj
            have hbd := hv_bd (q := q) (x := t) (by omega) (a.drop (j + 1))
            have hel := elem_get hae hj
            generalize hv q t (a.drop (j + 1)) = s at *
            generalize a[j] = y at *
            have HD := Lib.hid hd
            clear hd
            obtain ⟨hs1, hs2⟩ := hbd
            obtain ⟨hy1, hy2⟩ := hel
            have hm := mul_bd (q := q) (a := s) (b := t) ⟨hs1, by omega⟩ ⟨ht1, by omega⟩
            obtain ⟨hm1, hm2⟩ := hm
            have hw2 : IntKind.i64.wrap (s * t) = s * t := IntWalk.i64_in _ (by omega)
            have hw3 : IntKind.i64.wrap (s * t + y) = s * t + y := IntWalk.i64_in _ (by omega)
            rw [show (((j + 1 : Nat) : Int) - 1) = (j : Int) from by omega]
            go_wp2
            go_round
            case rel => exact ⟨j, by omega, by simp, by rw [HD.out, ← horner_step]⟩
            case measure => simp [intOf]
end
end Go.Proofs.Ytneliejncfncdaa
