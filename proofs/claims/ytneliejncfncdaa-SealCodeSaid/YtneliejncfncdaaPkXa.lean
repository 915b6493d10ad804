/- Texts Xa Xb in one. -/
import Derived.Test.YtneliejncfncdaaPkUa
import Derived.Test.YtneliejncfncdaaPkEa
import Derived.Test.YtneliejncfncdaaPkHa
import Derived.Deep.LoopGhost
namespace Go.Proofs.Ytneliejncfncdaa

/-- The number that a message's elements are the digits of. -/
def nv (q : Int) : List Int → Int
  | [] => 0
  | c :: cs => c + q * nv q cs
theorem elemB_consI {q c : Int} {cs : List Int} : elemB q (c :: cs) = true ↔ (0 ≤ c ∧ c < q) ∧ elemB q cs = true := by
  simp [elemB, and_assoc]
theorem nv_nonneg {q : Int} (hq : 1 ≤ q) : ∀ m : List Int, elemB q m = true → 0 ≤ nv q m
  | [], _ => Int.le_refl _
  | c :: cs, h => by
    rw [elemB_consI] at h
    have := nv_nonneg hq cs h.2
    have := Int.mul_nonneg (show 0 ≤ q by omega) this
    rw [nv]; omega
theorem nv_inj {q : Int} (hq : 1 ≤ q) : ∀ m r : List Int, m.length = r.length → elemB q m = true → elemB q r = true → nv q m = nv q r → m = r
  | [], [], _, _, _, _ => rfl
  | [], _ :: _, h, _, _, _ => by simp at h
  | _ :: _, [], h, _, _, _ => by simp at h
  | c :: cs, d :: ds, hl, h1, h2, he => by
    rw [elemB_consI] at h1 h2
    simp only [nv] at he
    have hcd : c = d := by
      have e1 : (c + q * nv q cs) % q = c := by rw [Int.add_mul_emod_self_left]; exact Int.emod_eq_of_lt h1.1.1 h1.1.2
      have e2 : (d + q * nv q ds) % q = d := by rw [Int.add_mul_emod_self_left]; exact Int.emod_eq_of_lt h2.1.1 h2.1.2
      rw [← e1, ← e2, he]
    subst hcd
    have hm : q * nv q cs = q * nv q ds := by omega
    have := Int.eq_of_mul_eq_mul_left (show q ≠ 0 by omega) hm
    rw [nv_inj hq cs ds (by simpa using hl) h1.2 h2.2 this]
theorem nv_lt {q : Int} (hq : 1 ≤ q) : ∀ m : List Int, elemB q m = true → nv q m < q ^ m.length
  | [], _ => by simp [nv]
  | c :: cs, h => by
    rw [elemB_consI] at h
    have := nv_lt hq cs h.2
    have h3 : q * (nv q cs + 1) ≤ q * q ^ cs.length := Int.mul_le_mul_of_nonneg_left (by omega) (by omega)
    rw [nv, List.length_cons, Int.pow_succ, Int.mul_comm (q ^ cs.length)]
    rw [Int.mul_add] at h3
    omega
/-- The first j digits are the greatest ones. -/
def tops (q : Int) (m : List Int) (j : Nat) : Prop := ∀ i, i < j → m.getD i 0 = q - 1
theorem nv_max {q : Int} (hq : 1 ≤ q) : ∀ m r : List Int, m.length = r.length → elemB q r = true → tops q m m.length → nv q r ≤ nv q m
  | [], [], _, _, _ => Int.le_refl _
  | [], _ :: _, h, _, _ => by simp at h
  | _ :: _, [], h, _, _ => by simp at h
  | c :: cs, d :: ds, hl, h2, ht => by
    rw [elemB_consI] at h2
    have hc : c = q - 1 := by simpa using ht 0 (by simp)
    have := nv_max hq cs ds (by simpa using hl) h2.2 fun i hi => by simpa using ht (i + 1) (by simpa using hi)
    have := Int.mul_le_mul_of_nonneg_left this (show 0 ≤ q by omega)
    simp only [nv]
    omega
/-- The first j digits cleared; .. and the next one raised. -/
def cleared0 (m : List Int) (j : Nat) : List Int := List.replicate j 0 ++ m.drop j
theorem cleared0_zero (m : List Int) : cleared0 m 0 = m := by simp [cleared0]
theorem cleared0_length {m : List Int} {j : Nat} (h : j ≤ m.length) : (cleared0 m j).length = m.length := by simp [cleared0]; omega
theorem cleared0_succ {m : List Int} {j : Nat} (h : j < m.length) : (cleared0 m j).set j 0 = cleared0 m (j + 1) := by
  refine List.ext_getElem (by simp [cleared0]; omega) fun i h1 h2 => ?_
  simp only [cleared0, List.getElem_set, List.getElem_append, List.length_replicate, List.getElem_replicate, List.getElem_drop]
  by_cases e : j = i
  · subst e; simp
  · rw [if_neg e]
    by_cases h3 : i < j
    · rw [dif_pos h3, dif_pos (by omega)]
    · rw [dif_neg h3, dif_neg (by omega)]
      congr 1
      omega
theorem cleared0_get {m : List Int} {j : Nat} : (cleared0 m j).getD j 0 = m.getD j 0 := by
  simp only [cleared0, List.getD]
  rw [List.getElem?_append_right (by simp)]
  simp
theorem cleared0_cons (c : Int) (cs : List Int) (j : Nat) : cleared0 (c :: cs) (j + 1) = 0 :: cleared0 cs j := by simp [cleared0, List.replicate_succ]
theorem nv_next {q : Int} : ∀ (m : List Int) (j : Nat), j < m.length → tops q m j → nv q ((cleared0 m j).set j (m.getD j 0 + 1)) = nv q m + 1
  | [], j, h, _ => by simp at h
  | c :: cs, 0, _, _ => by simp [cleared0, nv]; omega
  | c :: cs, j + 1, h, ht => by
    have hc : c = q - 1 := by simpa using ht 0 (by omega)
    have ih := nv_next cs j (by simpa using h) fun i hi => by simpa using ht (i + 1) (by omega)
    rw [cleared0_cons]
    simp only [List.set_cons_succ, List.getD_cons_succ, nv, ih]
    rw [hc, Int.mul_add]
    omega
theorem next_elem {q : Int} (hq : 1 ≤ q) {m : List Int} {j : Nat} (hm : elemB q m = true) (hj : j < m.length) (hlt : m.getD j 0 + 1 < q) : elemB q ((cleared0 m j).set j (m.getD j 0 + 1)) = true := by
  have h0 := elem_getD (q := q) hq hm j
  refine elemB_setN ?_ _ ⟨by omega, hlt⟩
  exact elemB_append (elemB_zeros hq _) (elemB_drop hm _)

/-- No message of a lesser number is near enough. -/
def NoneBelow (q : Int) (word : List Int) (k t : Nat) (m : List Int) : Prop := ∀ r : List Int, elemB q r = true → r.length = k → nv q r < nv q m → ¬ wrongs q r word word.length ≤ t
theorem NoneBelow.start {q : Int} (hq : 1 ≤ q) (word : List Int) (k t : Nat) : NoneBelow q word k t (List.replicate k 0) := fun r hr _ hlt => by
  have h0 : ∀ n, nv q (List.replicate n 0) = 0 := by
    intro n
    induction n with
    | zero => rfl
    | succ n ih => simp [List.replicate_succ, nv, ih]
  rw [h0] at hlt
  have := nv_nonneg hq r hr
  omega
theorem NoneBelow.next {q : Int} (hq : 1 ≤ q) {word : List Int} {k t : Nat} {m : List Int} (h : NoneBelow q word k t m) (hm : elemB q m = true) (hk : m.length = k) (hf : ¬ wrongs q m word word.length ≤ t) {j : Nat} (hj : j < k) (ht : tops q m j) :
    NoneBelow q word k t ((cleared0 m j).set j (m.getD j 0 + 1)) := fun r hr hl hlt => by
  rw [nv_next m j (by omega) ht] at hlt
  by_cases e : nv q r < nv q m
  · exact h r hr hl e
  · have : r = m := nv_inj hq r m (by omega) hr hm (by omega)
    subst this
    exact hf
theorem NoneBelow.all {q : Int} (hq : 1 ≤ q) {word : List Int} {k t : Nat} {m : List Int} (h : NoneBelow q word k t m) (hm : elemB q m = true) (hk : m.length = k) (hf : ¬ wrongs q m word word.length ≤ t) (ht : tops q m k) :
    ∀ r : List Int, elemB q r = true → r.length = k → ¬ wrongs q r word word.length ≤ t := fun r hr hl => by
  have hle := nv_max hq m r (by omega) hr (by rw [hk]; exact ht)
  by_cases e : nv q r < nv q m
  · exact h r hr hl e
  · have : r = m := nv_inj hq r m (by omega) hr hm (by omega)
    subst this
    exact hf
end Go.Proofs.Ytneliejncfncdaa

namespace Go.Proofs.Ytneliejncfncdaa
open Go.RowKit

theorem far_wrongs (q : Int) (m word : List Int) {n : Nat} : ∀ j, j ≤ n → farN (vals q m n) word j = wrongs q m word j
  | 0, _ => rfl
  | j + 1, h => by
    rw [farN, wrongs, far_wrongs q m word j (by omega)]
    have : (vals q m n).getD j 0 = hv q j m := by simp [vals, List.getD, show j < n by omega]
    rw [this]

/-- What the reference's Read returns. -/
def RetRead (q : Int) (k t : Nat) (word : List Int) (w : World) (e : Ending) (w' : World) : Prop :=
  (∃ v m, e = .returned (.tuple #[v, .int .i64 (wrongs q m word word.length : Nat)]) ∧ SlI w' v m ∧ m.length = k ∧ elemB q m = true ∧ wrongs q m word word.length ≤ t ∧ Below w.heap.size w w') ∨
  (e = .returned (.tuple #[.slice none 0 0, .int .i64 (-1)]) ∧ (∀ r : List Int, elemB q r = true → r.length = k → ¬ wrongs q r word word.length ≤ t) ∧ Below w.heap.size w w')

set_option maxRecDepth 100000 in
set_option maxHeartbeats 3200000 in
theorem refRead_any (q : Int) (k t n : Nat) (A : Option Addr) (c : Nat) (word : List Int) (w : World) (hq : 2 ≤ q ∧ q ≤ 31) (hw : elemB q word = true) (hA : Ints w A word) (hn : word.length = n) (hn2 : n ≤ 31) (hk1 : 1 ≤ k) (hkn : k ≤ n) (ht : t = (n - k) / 2) :
    Calls Try.prog 22 #[.int .i64 q, .int .i64 k, .slice A n c] w (RetRead q k t word w) := by
  obtain ⟨hq1, hq2⟩ := hq
  have htd : ((n : Int) - (k : Int)).tdiv 2 = (t : Int) := by
    rw [Int.tdiv_eq_ediv_of_nonneg (by omega)]
    omega
  have hw1 : IntKind.i64.wrap ((n : Int) - (k : Int)) = (n : Int) - (k : Int) := IntWalk.i64_in _ (by omega)
  have hw2 : IntKind.i64.wrap (t : Int) = (t : Int) := IntWalk.i64_in _ (by omega)
  have hrl : ∀ e w', (∃ v m, e = .returned (.tuple #[v, .int .i64 (wrongs q m word n : Nat)]) ∧ SlI w' v m ∧ m.length = k ∧ elemB q m = true ∧ wrongs q m word n ≤ t ∧ Below w.heap.size w w') → RetRead q k t word w e w' := fun e w' h => .inl (by rw [hn]; exact h)
  have hrr : ∀ e w', (e = .returned (.tuple #[.slice none 0 0, .int .i64 (-1)]) ∧ (∀ r : List Int, elemB q r = true → r.length = k → ¬ wrongs q r word word.length ≤ t) ∧ Below w.heap.size w w') → RetRead q k t word w e w' := fun e w' h => .inr h
  have HRL := Lib.hid hrl
  have HRR := Lib.hid hrr
  have HN := Lib.hid hn
  clear hrl hrr hn ht
  go_enter Try.func22, Try.ntmps22
  go_wp2_with (at_make; refine wpList_makeInts _ rfl _ _ rfl w.heap.size _ _ k rfl rfl rfl rfl (by omega) (Nat.le_refl _) ?_)
  intro w1 hown1 hgrow1
  have hb1 := (Below.refl w.heap.size w).grown hgrow1 (Nat.le_refl _) (by intro k hk; cases hk)
  clear hgrow1 hw1 hw2 htd
  obtain ⟨B, hB⟩ : ∃ B, w.heap.size = B := ⟨_, rfl⟩
  have HB := Lib.hid hB
  rw [hB] at hown1 hb1 ⊢
  clear hB
  go_wp2
  go_loopg [11] ((q ^ k).toNat) (fun gk i wr => ∃ m : List Int, (gk : Int) + nv q m = q ^ k ∧ OwnI wr B (.slice (some ⟨B, 0, none⟩) k k) k m ∧ elemB q m = true ∧ NoneBelow q word k t m ∧ Below B w wr)
  case atStart =>
    have h0 : ∀ j, nv q (List.replicate j 0) = 0 := by
      intro j
      induction j with
      | zero => rfl
      | succ j ih => simp [List.replicate_succ, nv, ih]
    have hp : 0 ≤ q ^ k := Int.le_of_lt (Int.pow_pos (by omega))
    exact ⟨List.replicate k 0, by rw [h0]; omega, hown1, elemB_zeros (by omega) _, NoneBelow.start (by omega) _ _ _, hb1⟩
  case round =>
    clear hown1 hb1
    obtain ⟨m, hg, ho, hme, hNB, hbl⟩ := hrel
    have hml := ho.len
    have hI := ho.ints
    have hA1 := hA.below (hbl.mono (by rw [HB.out]; exact Nat.le_refl _))
    have hlt := nv_lt (q := q) (by omega) m hme
    rw [hml] at hlt
    have hfw := far_wrongs q m word (n := n) n (Nat.le_refl _)
    have c38 := refEngrave_any q n k (some ⟨B, 0, none⟩) k m wr ⟨hq1, hq2⟩ hme hI hml (by omega) (by omega)
    have hvl := vals_length q m n
    have c39 : ∀ (W : World) A B c d, Ints W A (vals q m n) → Ints W B word → Calls Try.prog 39 #[.slice A n c, .slice B n d] W fun e w' => e = .returned (.int .i64 (wrongs q m word n : Nat)) ∧ ∃ z, w' = W.drewN z := fun W A B c d h1 h2 => by
      have := refFar_any A B c d n (vals q m n) word W h1 h2 hvl HN.out (by omega)
      rwa [hfw] at this
    have hwl := wrongs_le q m word n
    have HG := Lib.hid hg
    have HNB := Lib.hid hNB
    have HML := Lib.hid hml
    have HVL := Lib.hid hvl
    have HLT := Lib.hid hlt
    have hBl := (ho.lt B rfl).2
    clear hg hNB hml hvl hfw hlt
    generalize hW : wrongs q m word n = W at *
    have HW := Lib.hid hW
    clear hW
    generalize vals q m n = vs at *
    go_wp2_with fail
    refine c38.mono ?_
    rintro e w2 ⟨v2, rfl, hs2, hb2⟩
    obtain ⟨A2, c2, rfl, hV⟩ := hs2.lieA HVL.out
    have hA2 := hA1.below hb2
    have ho2 := ho.below hb2
    have hbl2 := hbl.trans (hb2.mono (by have := hbl.size; have := HB.out; omega))
    clear c38 hs2 hb2 ho hbl hI hA1
    go_wp2_with fail
    refine (c39 _ _ _ _ _ hV hA2).mono ?_
    rintro e w3 ⟨rfl, z, rfl⟩
    have ho3 := ho2.drewN z
    have hbl3 := hbl2.drewN z
    clear c39 hV hA2 ho2 hbl2
    by_cases hWt : W ≤ t
    · have d1 : decide ((W : Int) ≤ (t : Int)) = true := decide_eq_true (by omega)
      have d2 : ¬ t < W := by omega
      have hsl := ho3.sli
      have HWT := Lib.hid hWt
      clear hWt
      go_wp2
      go_ret2
      exact HRL.out _ _ ⟨_, m, by rw [HW.out]; rfl, hsl, HML.out, hme, by rw [HW.out]; exact HWT.out, by rw [HB.out]; exact hbl3⟩
    · have d1 : decide ((W : Int) ≤ (t : Int)) = false := decide_eq_false (by omega)
      have d2 : t < W := by omega
      have d3 : ¬ (W ≤ t) := hWt
      have hfar : ¬ wrongs q m word word.length ≤ t := by rw [HN.out, HW.out]; exact hWt
      have HF := Lib.hid hfar
      clear hfar hWt
      generalize w2.drewN z = w3 at *
      go_wp2
      have hcl0 := cleared0_zero m
      rw [← hcl0] at ho3
      clear hcl0
      go_loopw [11] (fun i wx => ∃ j : Nat, j ≤ k ∧ i = .int .i64 j ∧ tops q m j ∧ OwnI wx B (.slice (some ⟨B, 0, none⟩) k k) k (cleared0 m j) ∧ Below B w wx) (fun i _ => k - (intOf i).toNat)
      case atStart => exact ⟨0, by omega, rfl, fun i hi => by omega, ho3, hbl3⟩
      case round =>
        clear ho3 hbl3
        obtain ⟨j, hj, rfl, htop, ho, hbl⟩ := hrel
        by_cases hlj : j < k
        · have hcl := cleared0_length (m := m) (j := j) (by rw [HML.out]; exact hj)
          rw [HML.out] at hcl
          have hc := ho.get (k := j) (by omega)
          have hgd : (cleared0 m j)[j]'(by omega) = m.getD j 0 := by
            have := cleared0_get (m := m) (j := j)
            rw [← this]
            simp [List.getD, show j < (cleared0 m j).length by omega]
          rw [hgd] at hc
          have hme2 := elem_getD (q := q) (by omega) hme j
          have hsu := cleared0_succ (m := m) (j := j) (by rw [HML.out]; exact hlj)
          have hnx := nv_next (q := q) m j (by rw [HML.out]; exact hlj) htop
          have hne := fun h => next_elem (q := q) (by omega) (m := m) (j := j) hme (by rw [HML.out]; exact hlj) h
          have hnb := HNB.out.next (by omega) hme HML.out HF.out hlj htop
          have hf := ho.frozen j
          have ho1 := ho.set j 0
          have ho2 := ho.set j (m.getD j 0 + 1)
          have hlt1 : ∀ x, m.getD j 0 = x → x = q - 1 → tops q m (j + 1) := fun x hx hx2 i hi => by
            by_cases e : i = j
            · subst e; omega
            · exact htop i (by omega)
          generalize m.getD j 0 = x at *
          obtain ⟨hx1, hx2⟩ := hme2
          have hq0 : IntKind.i64.wrap (q - 1) = q - 1 := IntWalk.i64_in _ (by omega)
          have HT := Lib.hid htop
          clear hgd hcl htop
          by_cases hx : x = q - 1
          · have ht1 := hlt1 x rfl hx
            have hb1 : (x == q - 1) = true := by simpa using hx
            rw [hsu] at ho1
            have HT1 := Lib.hid ht1
            have hbl1 := hbl.setCell (p := ⟨B, j, none⟩) (Nat.le_refl _) (.int .i64 0)
            have HX := Lib.hid hx
            clear hlt1 hsu hnx hne hnb ho2 ht1 hx
            go_wp2
            go_roundw
            case rel => exact ⟨j + 1, by omega, by go_num, HT1.out, ho1, hbl1⟩
            case measure => simp [intOf]; omega
          · have hb1 : (x == q - 1) = false := by simpa using hx
            have hj1 : ((j : Int) == (k : Int)) = false := by simp; omega
            have hj2 : (j == k) = false := by simp; omega
            have he := hne (by omega)
            have hbl1 := hbl.setCell (p := ⟨B, j, none⟩) (Nat.le_refl _) (.int .i64 (x + 1))
            have HNX := Lib.hid hnx
            have HNB2 := Lib.hid hnb
            have HX := Lib.hid hx
            clear hlt1 hsu hnx hne hnb ho1 hx
            go_wp2
            go_roundg (gk - 1)
            case measure => have := HG.out; have := HLT.out; omega
            case rel => exact ⟨_, by rw [HNX.out]; have := HG.out; have := HLT.out; omega, ho2, he, HNB2.out, hbl1⟩
        · obtain rfl : j = k := by omega
          have hall := HNB.out.all (by omega) hme HML.out HF.out htop
          have hj1 : ((j : Int) == (j : Int)) = true := by simp
          have HAL := Lib.hid hall
          clear hall htop
          go_wp2
          go_ret2
          exact HRR.out _ _ ⟨rfl, HAL.out, by rw [HB.out]; exact hbl⟩
end Go.Proofs.Ytneliejncfncdaa
