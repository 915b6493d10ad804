/- Texts Vd Ve in one. -/
import Derived.Test.YtklngjjokbhfpaaGreatDoorVb
import Derived.Test.YtklngjjokbhfpaaGreatDoorRg
import Derived.Deep.QuietTactic
import Derived.RegionTactic
import Derived.Lib.Strings
import Derived.Lib.Small
import Derived.Lib.BitFns
import Derived.Deep.DeepCutAuto
namespace Go.Proofs.YtklngjjokbhfpaaGreatDoor
open Go.RowKit

theorem isNaN_any (x : Int) (w : World) : Calls Tryz.prog 85 #[.int .i64 x] w fun e w' => e = .returned (.bool false) ∧ w' = w := by
  go_enter Tryz.func85, Tryz.ntmps85
  go_wp2
  go_ret
  exact ⟨rfl, rfl⟩
theorem less_any (x y : Int) (w : World) : Calls Tryz.prog 123 #[.int .i64 x, .int .i64 y] w fun e w' => e = .returned (.bool (decide (x < y))) ∧ w' = w := by
  have c1 := (isNaN_any x w).mono (R' := fun e w' => e = .returned (.bool false) ∧ w = w') fun e w' h => ⟨h.1, h.2.symm⟩
  go_enter Tryz.func123, Tryz.ntmps123
  go_wp2_with (go_at_call 85; refine c1.mono ?_; rintro e w1 ⟨rfl, rfl⟩)
  go_ret
  exact ⟨rfl, rfl⟩

set_option maxRecDepth 100000 in
set_option maxHeartbeats 4000000 in
theorem len64_any (x : Int) (w : World) (hx0 : 0 ≤ x) (hx : x ≤ 255) : Calls Tryz.prog 95 #[.int .u64 x] w fun e w' => (∃ v, e = .returned (.int .i64 v)) ∧ w = w' := by
  go_enter Tryz.func95, Tryz.ntmps95
  go_wp2
  all_goals (go_ret; exact ⟨⟨_, rfl⟩, rfl⟩)
theorem blen_any (x : Int) (w : World) (hx0 : 0 ≤ x) (hx : x ≤ 255) : Calls Tryz.prog 107 #[.int .u64 x] w fun e w' => (∃ v, e = .returned (.int .i64 v)) ∧ w = w' := by
  have c := len64_any x w hx0 hx
  go_enter Tryz.func107, Tryz.ntmps107
  go_wp2_with fail
  refine c.mono ?_
  rintro e w1 ⟨⟨v, rfl⟩, rfl⟩
  go_wp2
  go_ret
  exact ⟨⟨_, rfl⟩, rfl⟩

/-- Where x goes among the first j of p. -/
def posL (x : Int) (p : List Int) : Nat → Nat
  | 0 => 0
  | j + 1 => if x < p.getD j 0 then posL x p j else j + 1
def insL (x : Int) (p : List Int) : List Int := p.take (posL x p p.length) ++ x :: p.drop (posL x p p.length)
def isortL (l : List Int) : List Int := l.foldl (fun p x => insL x p) []
theorem isortL_snoc (l : List Int) (x : Int) : isortL (l ++ [x]) = insL x (isortL l) := by simp [isortL]
theorem posL_le (x : Int) (p : List Int) : ∀ j, posL x p j ≤ j
  | 0 => Nat.le_refl _
  | j + 1 => by
    unfold posL
    have := posL_le x p j
    split <;> omega
theorem insL_len (x : Int) (p : List Int) : (insL x p).length = p.length + 1 := by
  have := posL_le x p p.length
  simp [insL]; omega
theorem isortL_len : ∀ l : List Int, (isortL l).length = l.length := fun l => by
  have : ∀ (l p : List Int), (l.foldl (fun p x => insL x p) p).length = p.length + l.length := by
    intro l
    induction l with
    | nil => intro p; simp
    | cons y l ih => intro p; simp only [List.foldl_cons, ih, insL_len, List.length_cons]; omega
  have := this l []
  rw [List.length_nil, Nat.zero_add] at this
  exact this

/-- The row while x goes down: x at place j. -/
def downR (p : List Int) (x : Int) (r : List Int) (j : Nat) : List Int := p.take j ++ x :: (p.drop j ++ r)
theorem downR_len (p : List Int) (x : Int) (r : List Int) (j : Nat) (h : j ≤ p.length) : (downR p x r j).length = p.length + 1 + r.length := by simp [downR]; omega
theorem downR_at (p : List Int) (x : Int) (r : List Int) (j : Nat) (h : j ≤ p.length) : (downR p x r j)[j]? = some x := by
  unfold downR
  rw [List.getElem?_append_right (by simp; omega)]
  simp [show j - min j p.length = 0 by omega]
theorem downR_before (p : List Int) (x : Int) (r : List Int) (j : Nat) (h : j + 1 ≤ p.length) : (downR p x r (j + 1))[j]? = some (p.getD j 0) := by
  unfold downR
  rw [List.getElem?_append_left (by simp; omega)]
  simp [show j < p.length by omega, List.getD]
theorem downR_swap (p : List Int) (x : Int) (r : List Int) (j : Nat) (h : j + 1 ≤ p.length) : ((downR p x r (j + 1)).set (j + 1) (p.getD j 0)).set j x = downR p x r j := by
  have hj : j < p.length := by omega
  unfold downR
  have h1 : (p.take (j + 1)).length = j + 1 := by simp; omega
  rw [List.set_append_right _ _ (by omega), h1, Nat.sub_self, List.set_cons_zero]
  have e1 : p.take (j + 1) = p.take j ++ [p[j]] := by simp
  have h2 : (p.take j).length = j := by simp; omega
  rw [e1, List.append_assoc, List.set_append_right _ _ (by omega), h2, Nat.sub_self, List.singleton_append, List.set_cons_zero, List.drop_eq_getElem_cons hj]
  have h3 : p.getD j 0 = p[j] := by simp [List.getD, hj]
  rw [h3]
  rfl
theorem downR_start (p : List Int) (x : Int) (r : List Int) : downR p x r p.length = p ++ x :: r := by simp [downR]
theorem downR_ins (p : List Int) (x : Int) (r : List Int) : downR p x r (posL x p p.length) = insL x p ++ r := by simp [downR, insL]

set_option maxRecDepth 100000 in
set_option maxHeartbeats 1600000 in
theorem insort_any (base g n cap : Nat) (xs : List Int) (w : World) (h : Own 3 .i64 w base (.slice (some ⟨g, 0, none⟩) n cap) n xs) (hn : n ≤ 12) :
    Calls Tryz.prog 117 #[.slice (some ⟨g, 0, none⟩) n cap, .int .i64 0, .int .i64 n] w fun e w' => (∃ v, e = .returned v) ∧ Own 3 .i64 w' base (.slice (some ⟨g, 0, none⟩) n cap) n (isortL xs) ∧ Fr [g] w w' := by
  have hxl := h.len
  have HXL := Lib.hid hxl
  clear hxl
  go_enter Tryz.func117, Tryz.ntmps117
  go_wp2
  go_loopw [6] (fun i wr => ∃ i' : Nat, 1 ≤ i' ∧ i' ≤ 12 ∧ i = .int .i64 i' ∧ Own 3 .i64 wr base (.slice (some ⟨g, 0, none⟩) n cap) n (isortL (xs.take i') ++ xs.drop i') ∧ Fr [g] w wr) (fun i _ => n - (intOf i).toNat)
  case atStart =>
    refine ⟨1, Nat.le_refl _, by omega, by go_num, ?_, Fr.refl _ _⟩
    have e : isortL (xs.take 1) ++ xs.drop 1 = xs := by
      cases xs with
      | nil => rfl
      | cons x r => simp [isortL, insL, posL]
    rw [e]
    exact h
  case round =>
    clear h
    obtain ⟨i, hi1, hi2, rfl, hown, hfr⟩ := hrel
    by_cases hlt : i < n
    · have hix : i < xs.length := by rw [HXL.out]; exact hlt
      have hpl : (isortL (xs.take i)).length = i := by rw [isortL_len]; simp; omega
      have hnx : isortL (xs.take (i + 1)) = insL xs[i] (isortL (xs.take i)) := by
        have e1 : xs.take (i + 1) = xs.take i ++ [xs[i]] := by simp
        rw [e1, isortL_snoc]
      have hrl : (xs.drop (i + 1)).length = n - (i + 1) := by simp [HXL.out]
      have hdr : xs.drop i = xs[i] :: xs.drop (i + 1) := List.drop_eq_getElem_cons hix
      have hst := downR_start (isortL (xs.take i)) xs[i] (xs.drop (i + 1))
      rw [hpl] at hst
      rw [hdr, ← hst] at hown
      have HNX := Lib.hid hnx
      have HPL := Lib.hid hpl
      have HRL := Lib.hid hrl
      clear hnx hpl hdr hst hrl
      generalize isortL (xs.take i) = p at *
      generalize xs[i] = x at *
      generalize hr : xs.drop (i + 1) = r at *
      have HR := Lib.hid hr
      clear hr hix
      go_wp2
      go_loopw [7] (fun j wx => ∃ j' : Nat, j' ≤ i ∧ j = .int .i64 j' ∧ posL x p j' = posL x p i ∧ Own 3 .i64 wx base (.slice (some ⟨g, 0, none⟩) n cap) n (downR p x r j') ∧ Fr [g] w wx) (fun j _ => (intOf j).toNat)
      case atStart => exact ⟨i, Nat.le_refl _, rfl, rfl, hown, hfr⟩
      case round =>
        clear hown hfr
        obtain ⟨j, hji, rfl, hpos, hown, hfr⟩ := hrel
        have HPOS := Lib.hid hpos
        have HFR := Lib.hid hfr
        have HOWN := Lib.hid hown
        clear hpos hfr
        cases j with
        | zero =>
          clear hown
          rw [show ((0 : Nat) : Int) = 0 from rfl]
          go_wp2
          go_quiet (fail)
          go_wp2
          go_roundw
          case rel =>
            refine ⟨i + 1, by omega, by omega, by go_num, ?_, HFR.out.drewN _⟩
            have h0 : posL x p p.length = 0 := by rw [HPL.out, ← HPOS.out]; rfl
            have hd := downR_ins p x r
            rw [h0] at hd
            rw [HNX.out, HR.out, ← hd]
            exact HOWN.out.drewN _
          case measure => simp [intOf]; omega
        | succ j =>
          have hjp : j + 1 ≤ p.length := by rw [HPL.out]; exact hji
          have hlen := downR_len p x r (j + 1) hjp
          have hln : (downR p x r (j + 1)).length = n := by rw [hlen, HPL.out, HRL.out]; omega
          have e1 := downR_at p x r (j + 1) hjp
          have e2 := downR_before p x r j hjp
          have hps : posL x p (j + 1) = if x < p.getD j 0 then posL x p j else j + 1 := rfl
          have hsw := downR_swap p x r j hjp
          generalize p.getD j 0 = y at *
          have c1 := hown.get (k := j + 1) (by rw [hln]; omega)
          have c2 := hown.get (k := j) (by rw [hln]; omega)
          rw [show (downR p x r (j + 1))[j + 1]'(by rw [hln]; omega) = x from by rw [List.getElem?_eq_some_iff] at e1; exact e1.2] at c1
          rw [show (downR p x r (j + 1))[j]'(by rw [hln]; omega) = y from by rw [List.getElem?_eq_some_iff] at e2; exact e2.2] at c2
          rw [show ((j + 1 : Nat) : Int) = (j : Int) + 1 from by omega]
          have i1 : (0 : Int) ≤ (j : Int) + 1 := by omega
          have i2 : (j : Int) + 1 < (n : Int) := by omega
          have i3 : (0 : Int) ≤ (j : Int) := by omega
          have i4 : (j : Int) < (n : Int) := by omega
          have i5 : (j : Int) + 1 - 1 = (j : Int) := by omega
          have i6 : (0 : Int) < (j : Int) + 1 := by omega
          have i7 : ((j : Int) + 1).toNat = j + 1 := by omega
          have u1 : IntKind.i64.wrap (j : Int) = j := IntWalk.i64_in _ (by omega)
          have u2 : IntKind.i64.wrap ((j : Int) + 1) = j + 1 := IntWalk.i64_in _ (by omega)
          have HLN := Lib.hid hln
          have HPS := Lib.hid hps
          clear hlen hln e1 e2 hps
          have cl : ∀ W : World, Calls Tryz.prog 123 #[.int .i64 x, .int .i64 y] W fun e w' => e = .returned (.bool (decide (x < y))) ∧ w' = W := fun W => less_any x y W
          by_cases hxy : x < y
          · rw [show decide (x < y) = true from decide_eq_true hxy] at cl
            have hp2 := HPS.out
            rw [if_pos hxy] at hp2
            have HP2 := Lib.hid hp2
            clear hp2 hxy
            go_wp2
            go_quiet ((go_at_call 123; exact Calls.quiet_of_same (cl _)))
            clear cl
            go_wp2_with fail
            have hown2 := hown.drewN nq
            have hfr2 := Lib.hid (HFR.out.drewN nq)
            have d1 := c1
            have d2 := c2
            change (wr.drewN nq).cell? _ = _ at d1 d2
            clear c1 c2 hown HFR HOWN
            generalize wr.drewN nq = W at *
            have f1 := hown2.frozen (j + 1)
            have f2 := hown2.frozen j
            have hs := (hown2.set (j + 1) y).set j x
            rw [hsw] at hs
            have HSET := Lib.hid hs
            have HF := Lib.hid ((hfr2.out.set ⟨g, j + 1, none⟩ (.inl (by simp)) (.int .i64 y)).set ⟨g, j, none⟩ (.inl (by simp)) (.int .i64 x))
            clear hs hown2 hfr2 hsw
            go_region
            go_wp2
            go_roundw
            case rel => exact ⟨j, by omega, by go_num, by rw [← HPOS.out, HP2.out], HSET.out.drew, HF.out.drew⟩
            case measure => simp [intOf]
          · rw [show decide (x < y) = false from decide_eq_false hxy] at cl
            have hp2 := HPS.out
            rw [if_neg hxy] at hp2
            have HP2 := Lib.hid hp2
            clear hp2 hxy
            go_wp2
            go_quiet ((go_at_call 123; exact Calls.quiet_of_same (cl _)))
            clear cl
            go_wp2
            go_roundw
            case rel =>
              refine ⟨i + 1, by omega, by omega, by go_num, ?_, HFR.out.drewN _⟩
              have hd := downR_ins p x r
              rw [HPL.out, ← HPOS.out, HP2.out] at hd
              rw [HNX.out, HR.out, ← hd]
              exact HOWN.out.drewN _
            case measure => simp [intOf]; omega
    · have e1 : xs.take i = xs := List.take_of_length_le (by rw [HXL.out]; omega)
      have e2 : xs.drop i = [] := List.drop_eq_nil_of_le (by rw [HXL.out]; omega)
      rw [e1, e2, List.append_nil] at hown
      have HOWN := Lib.hid hown
      have HFR := Lib.hid hfr
      clear hown hfr e1 e2
      go_wp2
      go_end0
      exact ⟨⟨_, rfl⟩, HOWN.out, HFR.out⟩

end Go.Proofs.YtklngjjokbhfpaaGreatDoor

namespace Go.Proofs.YtklngjjokbhfpaaGreatDoor
open Go.RowKit

set_option maxRecDepth 100000 in
set_option maxHeartbeats 1600000 in
theorem pdq_any (base g n cap : Nat) (lim : Int) (xs : List Int) (w : World) (h : Own 3 .i64 w base (.slice (some ⟨g, 0, none⟩) n cap) n xs) (hn : n ≤ 12) :
    Calls Tryz.prog 106 #[.slice (some ⟨g, 0, none⟩) n cap, .int .i64 0, .int .i64 n, .int .i64 lim] w fun e w' => (∃ v, e = .returned v) ∧ Own 3 .i64 w' base (.slice (some ⟨g, 0, none⟩) n cap) n (isortL xs) ∧ Fr [g] w w' := by
  have c := insort_any base g n cap xs w h hn
  clear h
  have u1 : IntKind.i64.wrap ((n : Int) - 0) = n := by rw [Int.sub_zero]; exact IntWalk.i64_in _ (by omega)
  have u2 : IntKind.i64.wrap (n : Int) = n := IntWalk.i64_in _ (by omega)
  have d1 : decide ((n : Int) ≤ 12) = true := decide_eq_true (by omega)
  go_enter Tryz.func106, Tryz.ntmps106
  go_wp2
  go_loopw [1, 2, 3, 8] (fun a b l x wr => a = .int .i64 0 ∧ b = .int .i64 n ∧ l = .int .i64 lim ∧ x = .bool true ∧ wr = w) (fun _ _ _ _ _ => 0)
  case atStart => exact ⟨rfl, rfl, rfl, rfl, rfl⟩
  case round =>
    obtain ⟨rfl, rfl, rfl, rfl, rfl⟩ := hrel
    go_wp2_with fail
    refine c.mono ?_
    rintro e w1 ⟨⟨v, rfl⟩, h1, h2⟩
    clear c
    have H1 := Lib.hid h1
    have H2 := Lib.hid h2
    clear h1 h2
    go_wp2
    refine bodyPost_ret (results_none rfl _ _ _) rfl ⟨⟨_, rfl⟩, H1.out, H2.out⟩

set_option maxRecDepth 100000 in
set_option maxHeartbeats 800000 in
theorem sort_any (base g n cap : Nat) (xs : List Int) (w : World) (h : Own 3 .i64 w base (.slice (some ⟨g, 0, none⟩) n cap) n xs) (hn : n ≤ 12) :
    Calls Tryz.prog 83 #[.slice (some ⟨g, 0, none⟩) n cap] w fun e w' => (∃ v, e = .returned v) ∧ Own 3 .i64 w' base (.slice (some ⟨g, 0, none⟩) n cap) n (isortL xs) ∧ Fr [g] w w' := by
  have c := fun lim => pdq_any base g n cap lim xs w h hn
  have cb := blen_any n w (by omega) (by omega)
  clear h
  have u1 : IntKind.u64.wrap (n : Int) = n := u64_in n (by omega)
  go_enter Tryz.func83, Tryz.ntmps83
  go_wp2_with fail
  refine cb.mono ?_
  rintro e w1 ⟨⟨lim, rfl⟩, rfl⟩
  clear cb
  go_wp2_with fail
  refine (c _).mono ?_
  rintro e w1 ⟨⟨v, rfl⟩, h1, h2⟩
  clear c
  have H1 := Lib.hid h1
  have H2 := Lib.hid h2
  clear h1 h2
  go_wp2
  go_end0
  exact ⟨⟨_, rfl⟩, H1.out, H2.out⟩

theorem Ints.news {κ : IntKind} {w : World} {a : Addr} {xs : List Int} (h : Ints κ w (some a) xs) : ∀ (j : Nat) (u : Value), (xs.map (Value.int κ))[j]? = some u → w.cell? (a.add j) = some u := by
  intro j u hu
  rcases h with h | ⟨b, off, hA, hb, hc⟩
  · rw [h] at hu; simp at hu
  · cases hA
    rw [Addr.add_lit]
    exact hc j u hu

/-- append of a slice of numbers, at a plain region's list. -/
theorem wpList_ints {ops : Array Oper} {rest : List Oper} {o : Oper} {a : Act} {Q : Exit → Act → World → Prop} (w : World) (hgd : o.guard = none) (s x : Operand)
    (ho : o.op = .call { callee := .builtin .append, args := #[s, x], argTypes := #[41, 41] })
    (base : Nat) (v : Value) (n : Nat) (xs : List Int) (hs : a.eval s = v) (hown : Own 3 .i64 w base v n xs)
    (ad : Addr) (m c : Nat) (ys : List Int) (hx : a.eval x = .slice (some ad) m c) (hy : Ints .i64 w (some ad) ys) (hym : ys.length = m)
    (hn : n + m ≤ 1000000) (hbase : base ≤ w.heap.size)
    (h : ∀ v' w', Own 3 .i64 w' base v' (n + m) (xs ++ ys) → w.grownBy w' v.ownBlock → wpList Tryz.prog ops Q rest (a.put o.dst v') w') : wpList Tryz.prog ops Q (o :: rest) a w := by
  obtain ⟨i0, hi0, hz0, hz1, hz2⟩ := info_parts elemI.info
  refine wpList_append_own w hgd s x 41 ho base 3 i0 _ 1 8 elemI.under hi0 hz0 hz1 hz2 rfl (by omega) v n _ hs hown.out ad m c (ys.map (Value.int .i64)) hx (by simpa using hym) hy.news (by intro u hu; simp at hu; obtain ⟨y, _, rfl⟩ := hu; rfl)
    (by unfold maxLen; omega) (by omega) hbase ?_
  intro v' w1 hown1 hgrow _
  exact h v' w1 (by unfold Own; simpa using hown1) hgrow

set_option maxRecDepth 100000 in
set_option maxHeartbeats 800000 in
/-- slices.Clone. -/
theorem clone_any (A : Option Addr) (n c : Nat) (xs : List Int) (w : World) (h : Ints .i64 w A xs) (hn : xs.length = n) (hnc : n ≤ c) (hA : A = none → c = 0) (hb : n ≤ 100000) :
    Calls Tryz.prog 43 #[.slice A n c] w (RetI xs w) := by
  cases A with
  | none =>
    obtain rfl := hA rfl
    obtain rfl : n = 0 := by omega
    obtain rfl : xs = [] := List.eq_nil_of_length_eq_zero hn
    have he := fun W => Lib.run_eql_slice_nil (P := Tryz.prog) W 41 3 none 0 0 0 0 elemI.under
    go_enter Tryz.func43, Tryz.ntmps43
    go_wp2
    go_ret
    exact ⟨_, rfl, Own.nil _ _, Below.refl _ _⟩
  | some a =>
    have he := fun W => Lib.run_eql_slice_nil (P := Tryz.prog) W 41 3 (some a) n c 0 0 elemI.under
    go_enter Tryz.func43, Tryz.ntmps43
    go_wp2_with (at_builtin; refine wpList_ints _ rfl _ _ rfl w.heap.size (.slice (some ⟨w.heap.size, 0, none⟩) 0 0) 0 [] rfl ?c1 a n c xs rfl ?c2 hn (by omega) ?c3 ?_)
    case c1 => exact World.ownsRow_lit w #[] 0 (Nat.le_refl _) (by simp [maxLen]) rfl
    case c2 => exact Ints.below h ((Below.refl _ _).alloc (Nat.le_refl _) _)
    case c3 => simp
    intro v' w1 hown hgrow
    have hb1 := ((Below.refl w.heap.size w).alloc (Nat.le_refl _) (.cells #[] 3)).grown hgrow (by simp) (by intro k hk; simp [Value.ownBlock] at hk; omega)
    clear hgrow
    go_wp2
    go_ret
    refine ⟨_, rfl, ?_, hb1⟩
    rw [hn]
    simpa using hown

end Go.Proofs.YtklngjjokbhfpaaGreatDoor
