/- Texts Vf Vg in one. -/
import Derived.Test.YtklngjjokbhfpaaGreatDoorPkVd
import Derived.Test.YtklngjjokbhfpaaGreatDoorPkRh
import Derived.OwnWalkIn
import Derived.TacticsInMore
import Derived.Deep.LoopGhost
import Derived.Shelf.Abstract
namespace Go.Proofs.YtklngjjokbhfpaaGreatDoor
open Go.RowKit Go.Shelf
attribute [local go_sem] Oper.semAt_some

set_option maxHeartbeats 400000 in
theorem values_any (A : Option Addr) (n c : Nat) (w : World) : Calls Tryz.prog 61 #[.slice A n c] w fun e w' =>
    e = .returned (.func (.func 84) #[] #[.pointer (some ⟨w.heap.size, 0, none⟩)]) ∧ w' = w.alloc (.cells #[.slice A n c] 41) := by
  go_enter Tryz.func61, Tryz.ntmps61
  go_wp2
  go_ret
  exact ⟨rfl, rfl⟩

/-- Kept by whatever leaves the block. -/
theorem Ints.keepBlock {κ : IntKind} {w w' : World} {b off : Nat} {A : Option Addr} {xs : List Int} (h : Ints κ w A xs) (hA : A = some ⟨b, off, none⟩) (hb : w'.heap[b]? = w.heap[b]?) (hs : w.heap.size ≤ w'.heap.size) : Ints κ w' A xs := by
  subst hA
  rcases h with h | ⟨b', o', hA, hl, hc⟩
  · exact .inl h
  · cases hA
    exact .inr ⟨b, off, rfl, by omega, fun j v hv => (World.cell?_of_block hb).trans (hc j v hv)⟩

def RdV (bs : List Nat) (x : Int) (v : Value) (_ : World) : Prop := v = .int .i64 x ∧ bs = []

set_option maxRecDepth 100000 in
set_option maxHeartbeats 1600000 in
theorem values_iter (n B bx off m c : Nat) (xs : List Int) (w0 : World) (hn : 1 ≤ n) (hm : m ≤ 1000000)
    (hB : One w0 B (.slice (some ⟨bx, off, none⟩) m c) 41) (hx : Ints .i64 w0 (some ⟨bx, off, none⟩) xs) (hxl : xs.length = m) (hbx : bx < w0.heap.size) :
    IterR Fence.wide n Tryz.prog 84 #[.pointer (some ⟨B, 0, none⟩)] [B, bx] RdV xs w0 := by
  intro l W0 J hb hlB hl hJ h0 hY
  refine callsIn_wide.2 ?_
  simp only [List.append_toArray, List.nil_append, List.cons_append]
  replace hB := hB.below hb hB.lt
  replace hx := hx.below hb
  replace hbx : bx < W0.heap.size := Nat.lt_of_lt_of_le hbx hb.size
  have hc1 := hB.cell
  have hj0 := h0 [] W0 (by simp) (Fr.refl _ _)
  have HXL := Lib.hid hxl
  clear hxl h0 hb
  go_enter Tryz.func84, Tryz.ntmps84
  go_wp2
  go_loopw [7] (fun i wr => ∃ k : Nat, k ≤ m ∧ i = .int .i64 k ∧ J [] (xs.take k) wr ∧ Ints .i64 wr (some ⟨bx, off, none⟩) xs ∧ bx < wr.heap.size) (fun i _ => m - (intOf i).toNat)
  case atStart => exact ⟨0, Nat.zero_le _, rfl, hj0, hx, hbx⟩
  case round =>
    clear hj0 hx hbx
    obtain ⟨k, hk, rfl, hj, hx, hbx⟩ := hrel
    by_cases hlt : k < m
    · have hkx : k < xs.length := by rw [HXL.out]; exact hlt
      obtain ⟨b1, o1, e1, hl1, hc⟩ := hx.get hkx
      cases e1
      have i1 : (0 : Int) ≤ (k : Int) := by omega
      have i2 : (k : Int) < (m : Int) := by omega
      have ht : xs.take (k + 1) = xs.take k ++ [xs[k]] := by simp
      have hall : xs = xs.take k ++ xs[k] :: xs.drop (k + 1) := by rw [← List.drop_eq_getElem_cons hkx, List.take_append_drop]
      obtain ⟨fn, tmps, assign, body, hy, hR⟩ := hY [] (xs.take k) xs[k] (xs.drop (k + 1)) (.int .i64 xs[k]) wr hall (by simp) hj ⟨rfl, rfl⟩
      rw [← ht] at hR
      have HT := Lib.hid ht
      clear ht hall hj
      have HX := Lib.hid hx
      clear hx
      generalize hxk : xs[k] = x at *
      have HXK := Lib.hid hxk
      clear hxk
      go_upto_region 3 with (fail)
      refine (wpIn_wide (n := n)).1 ?_
      gi_wp2
      refine hR.mono ?_
      rintro e W3 ⟨rfl, hJ3, hF3⟩
      gi_wp2
      have hx3 : Ints .i64 W3 (some ⟨bx, off, none⟩) xs := HX.out.keepBlock rfl (hF3.block bx (by simp) hbx) hF3.size
      have HX3 := Lib.hid hx3
      have HJ3 := Lib.hid hJ3
      have hs3 := hF3.size
      clear hx3 hJ3 hF3 hR hy HX
      go_wp2
      go_roundw
      case rel => exact ⟨k + 1, by omega, by go_num, HJ3.out, HX3.out, by omega⟩
      case measure => simp [intOf]; omega
    · obtain rfl : k = m := by omega
      rw [List.take_of_length_le (by rw [HXL.out]; exact Nat.le_refl _)] at hj
      have HJ := Lib.hid hj
      clear hj
      go_wp2
      go_end0
      exact ⟨⟨_, rfl⟩, [], by simp, HJ.out⟩

set_option maxRecDepth 100000 in
set_option maxHeartbeats 1600000 in
theorem appendSeq_any (B bx off m c : Nat) (xs : List Int) (w : World) (hm : m ≤ 100000)
    (hB : One w B (.slice (some ⟨bx, off, none⟩) m c) 41) (hx : Ints .i64 w (some ⟨bx, off, none⟩) xs) (hxl : xs.length = m) (hbx : bx < w.heap.size) :
    Calls Tryz.prog 105 #[.slice none 0 0, .func (.func 84) #[] #[.pointer (some ⟨B, 0, none⟩)]] w (RetI xs w) := by
  have hBl := hB.lt
  refine (callsIn_wide (n := 10)).1 ?_
  refine callsIn_of_wp_marks Tryz.func105 rfl trivial ?_ rfl
  simp only [Tryz.ntmps105, List.size_toArray, List.length_cons, List.length_nil, Nat.reduceAdd, Nat.reduceSub, Array.replicate_succ, Array.replicate_zero, List.push_toArray, List.append_toArray, List.nil_append, List.cons_append]
  gi_wp2
  obtain ⟨W0, hW0⟩ : ∃ W0, W0 = w.alloc (.cells #[.slice none 0 0] 41) := ⟨_, rfl⟩
  rw [← hW0]
  have hs0 : W0.heap.size = w.heap.size + 1 := by rw [hW0]; simp
  have hb0 : Below w.heap.size w W0 := by rw [hW0]; exact (Below.refl _ _).alloc (Nat.le_refl _) _
  have hone0 : One W0 w.heap.size (.slice none 0 0) 41 := by rw [hW0]; exact One.new _ _ _
  clear hW0
  refine wpIn_range_outer rfl (by omega) rfl trivial (enters_of Tryz.func84 (by kernel_rfl) rfl)
    (values_iter 9 B bx off m c xs W0 (by omega) (by omega) (hB.below hb0 hBl) (hx.below hb0) hxl (by omega))
    (fun T pre W => ∃ v, One W w.heap.size v 41 ∧ Own 3 .i64 W (w.heap.size + 1) v pre.length pre ∧ (∀ k, v.ownBlock = some k → k ∉ T) ∧ Below w.heap.size w W)
    (fun _ bs x v a' _ => bs = [] ∧ v = .int .i64 x ∧ a' = { tmps := #[.slice none 0 0, .func (.func 84) #[] #[.pointer (some ⟨B, 0, none⟩)], .pointer (some ⟨w.heap.size, 0, none⟩), undef, .slice none 0 0, .int .i64 x, .func (.func 84) #[] #[.pointer (some ⟨B, 0, none⟩)], .int .i64 x, undef, undef, undef, undef, undef], defers := [] })
    ?hJ ?h0 (fun _ _ _ _ _ _ _ h _ => h) ?assign ?body (by simp; omega) rfl ?done
  case hJ =>
    rintro T xs' W W' hT ⟨v, h1, h2, h3, h4⟩ hf
    refine ⟨v, h1.fr hf (fun h => by have := hT _ h; omega), h2.fr hf h3, h3, h4.trans ((hf.belowOf (B := w.heap.size) h4.size (fun k hk => by have := hT k hk; omega)))⟩
  case h0 =>
    intro T W' hT hf
    exact ⟨_, hone0.fr hf (by simp), Own.nil _ _, by simp [Value.ownBlock], hb0.trans (hf.below.mono (by omega))⟩
  case assign =>
    rintro l bs pre x v W hl hbs hlb hlt hj ⟨rfl, hbn⟩
    gi_wp2
    exact ⟨Keep.refl _ _, hj, hbn, by trivial, by trivial⟩
  case body =>
    rintro l bs pre x post v a' W hall hl hbs hlb hlt ⟨r, hr⟩ ⟨v0, hone, hown, hnT, hbl⟩ ⟨rfl, rfl, rfl⟩
    have hc1 := hone.cell
    have hf1 := hone.free
    have hl0 : w.heap.size < W.heap.size := hone.lt
    have hpl : pre.length ≤ 100000 := by have := congrArg List.length hall; simp at this; omega
    have hone1 : ∀ o, One (W.alloc o) w.heap.size v0 41 := fun o => hone.alloc o
    have hc2 : ∀ o, (W.alloc o).cell? ⟨w.heap.size, 0, none⟩ = some v0 := fun o => (hone1 o).cell
    refine wpIn_block (wpIn_region_plain (by kernel_rfl) ?_)
    go_wp2_with (at_builtin; refine wpList_one elemI _ rfl _ _ rfl (w.heap.size + 1) v0 pre.length pre rfl (hown.alloc _) W.heap.size x rfl (heap_alloc_new W _) (by omega) (by simp; omega) (W.heap.size + 1) (by simp) ?_)
    intro g cap W2 hown2 hgrow hat hg2
    have hg0 : g ≠ w.heap.size := by
      rcases hat with h | h
      · have := (hown.lt g h).1; omega
      · omega
    have hv0 : ∀ k, v0.ownBlock = some k → k ≠ w.heap.size := fun k h => by have := (hown.lt k h).1; omega
    have hfr : Fr (v0.ownBlock.toList) W W2 := ((Fr.refl _ W).alloc _).trans (fr_of_grown hgrow (fun k h _ => by simp [h]))
    have hone2 : One W2 w.heap.size v0 41 := hone.fr hfr (fun h => by simp at h; exact hv0 _ h rfl)
    have hc3 := hone2.cell
    have hf3 := hone2.free
    have hfr3 : Fr (w.heap.size :: v0.ownBlock.toList) W (W2.setCell ⟨w.heap.size, 0, none⟩ (.slice (some ⟨g, 0, none⟩) (pre.length + 1) cap)) := (hfr.mono (fun k hk _ => List.mem_cons_of_mem _ hk)).set _ (.inl (by simp)) _
    have hown3 : Own 3 .i64 (W2.setCell ⟨w.heap.size, 0, none⟩ (.slice (some ⟨g, 0, none⟩) (pre.length + 1) cap)) (w.heap.size + 1) (.slice (some ⟨g, 0, none⟩) (pre.length + 1) cap) (pre.length + 1) (pre ++ [x]) := hown2.keep fun k hk => by
      cases hk
      exact Below.heap_setCell _ _ _ _ hg0
    have hone3 := hone2.set (.slice (some ⟨g, 0, none⟩) (pre.length + 1) cap)
    have HFR := Lib.hid hfr3
    have HOWN := Lib.hid hown3
    have HONE := Lib.hid hone3
    clear hc1 hf1 hc2 hone hone1 hone2 hfr hfr3 hown2 hown3 hone3 hgrow
    go_wp2
    refine ⟨HFR.out.keep fun k hk h => ?_, _, HONE.out, by simpa using HOWN.out, fun k hk => ?_, hbl.trans (HFR.out.belowOf (by omega) (fun k hk => ?_))⟩
    · have hkT : k = w.heap.size → False := fun e => by
        subst e
        simp at hk
        omega
      simp at h
      rcases h with h | h
      · exact hkT h
      · have := hnT k h
        have := hown.lt k h
        simp at hk
        rcases hk with rfl | rfl | rfl | rfl <;> first | omega | simp_all
    · simp only [Value.ownBlock, Option.some.injEq] at hk
      subst hk
      rcases hat with h | h
      · have := hnT g h
        rw [hs0] at this
        exact this
      · simp; omega
    · simp at hk
      rcases hk with rfl | hk
      · omega
      · have := (hown.lt k hk).1; omega
  case done =>
    rintro D l bs W hD hl hbs ⟨v0, hone, hown, hnT, hbl⟩ hK
    have hc1 := hone.cell
    gi_wp2
    refine ⟨by simp, .inl ⟨_, _, rfl, run_takeDeferred hK, ?_⟩⟩
    have hf := fr_putObj W D (.deferred none)
    refine ⟨_, results_tmp rfl _ _ _, _, rfl, (hown.fr hf (fun k hk h => ?_)).mono (by omega), hbl.trans (hf.belowOf hbl.size (fun k hk => by simp at hk; omega))⟩
    simp at h
    exact hnT k hk (by simp [h])

set_option maxRecDepth 100000 in
set_option maxHeartbeats 800000 in
theorem collect_any (B bx off m c : Nat) (xs : List Int) (w : World) (hm : m ≤ 100000)
    (hB : One w B (.slice (some ⟨bx, off, none⟩) m c) 41) (hx : Ints .i64 w (some ⟨bx, off, none⟩) xs) (hxl : xs.length = m) (hbx : bx < w.heap.size) :
    Calls Tryz.prog 82 #[.func (.func 84) #[] #[.pointer (some ⟨B, 0, none⟩)]] w (RetI xs w) := by
  have ca := appendSeq_any B bx off m c xs w hm hB hx hxl hbx
  clear hB hx hxl hbx
  go_enter Tryz.func82, Tryz.ntmps82
  go_wp2_with fail
  refine ca.mono ?_
  rintro e w1 ⟨v, rfl, h1, h2⟩
  have H1 := Lib.hid h1
  have H2 := Lib.hid h2
  clear ca h1 h2
  go_wp2
  go_ret
  exact ⟨_, rfl, H1.out, H2.out⟩

set_option maxRecDepth 100000 in
set_option maxHeartbeats 800000 in
theorem sorted_any (B bx off m c : Nat) (xs : List Int) (w : World) (hm : m ≤ 12) (hm0 : 0 < m)
    (hB : One w B (.slice (some ⟨bx, off, none⟩) m c) 41) (hx : Ints .i64 w (some ⟨bx, off, none⟩) xs) (hxl : xs.length = m) (hbx : bx < w.heap.size) :
    Calls Tryz.prog 60 #[.func (.func 84) #[] #[.pointer (some ⟨B, 0, none⟩)]] w (RetI (isortL xs) w) := by
  have ca := collect_any B bx off m c xs w (by omega) hB hx hxl hbx
  clear hB hx hbx
  have HXL := Lib.hid hxl
  go_enter Tryz.func60, Tryz.ntmps60
  go_wp2_with fail
  refine ca.mono ?_
  rintro e w1 ⟨v, rfl, h1, h2⟩
  obtain ⟨g, cap, rfl, hg1, hg2⟩ := h1.form (by omega)
  have cs := sort_any w.heap.size g xs.length cap xs w1 h1 (by omega)
  have H2 := Lib.hid h2
  clear ca h1 h2 hxl
  go_wp2_with fail
  refine cs.mono ?_
  rintro e w2 ⟨⟨v, rfl⟩, h3, h4⟩
  have H3 := Lib.hid h3
  have H4 := Lib.hid h4
  clear cs h3 h4
  go_wp2
  go_ret
  refine ⟨_, rfl, ?_, H2.out.trans (H4.out.belowOf H2.out.size (fun k hk => by simp at hk; omega))⟩
  rw [isortL_len]
  exact H3.out

end Go.Proofs.YtklngjjokbhfpaaGreatDoor

namespace Go.Proofs.YtklngjjokbhfpaaGreatDoor
open Go.RowKit Go.Shelf

/-- The element while the row is turned round. -/
def revE (xs : List Int) (n k t : Nat) : Int := if t < k ∨ n - k ≤ t then xs.getD (n - 1 - t) 0 else xs.getD t 0
theorem revE_all {xs row : List Int} {n k : Nat} (hx : xs.length = n) (hr : row.length = n) (hk : n ≤ 2 * k + 1) (h : ∀ t, t < n → row.getD t 0 = revE xs n k t) : row = xs.reverse := by
  refine List.ext_getElem (by simp [hx, hr]) fun t h1 h2 => ?_
  have ht : t < n := by omega
  have h3 := h t ht
  have h4 : row.getD t 0 = row[t] := by simp [List.getD, h1]
  rw [← h4, h3, List.getElem_reverse]
  have h5 : ∀ i (hi : i < xs.length), xs.getD i 0 = xs[i] := fun i hi => by simp [List.getD, hi]
  unfold revE
  split
  · rw [h5 _ (by omega)]; congr 1; omega
  · rw [h5 _ (by omega)]; congr 1; omega
theorem getD_set (l : List Int) (i j : Nat) (v : Int) (hi : i < l.length) : (l.set i v).getD j 0 = if j = i then v else l.getD j 0 := by
  by_cases e : j = i
  · subst e; simp [List.getD, hi]
  · rw [if_neg e]; simp [List.getD, List.getElem?_set_ne (Ne.symm e)]
theorem revE_step {xs row : List Int} {n k : Nat} (hr : row.length = n) (hk : 2 * k + 1 < n) (h : ∀ t, t < n → row.getD t 0 = revE xs n k t) :
    ∀ t, t < n → ((row.set k (xs.getD (n - 1 - k) 0)).set (n - 1 - k) (xs.getD k 0)).getD t 0 = revE xs n (k + 1) t := by
  intro t ht
  rw [getD_set _ _ _ _ (by simp; omega), getD_set _ _ _ _ (by omega), h t ht]
  unfold revE
  by_cases e1 : t = n - 1 - k
  · rw [if_pos e1, if_pos (by omega)]; subst e1; congr 1; omega
  · rw [if_neg e1]
    by_cases e2 : t = k
    · rw [if_pos e2, if_pos (by omega), e2]
    · rw [if_neg e2]
      by_cases e3 : t < k ∨ n - k ≤ t
      · rw [if_pos e3, if_pos (by omega)]
      · rw [if_neg e3, if_neg (by omega)]

set_option maxRecDepth 100000 in
set_option maxHeartbeats 1600000 in
theorem reverse_any (base g n cap : Nat) (xs : List Int) (w : World) (h : Own 3 .i64 w base (.slice (some ⟨g, 0, none⟩) n cap) n xs) (hn : n ≤ 100000) (hn0 : 0 < n) :
    Calls Tryz.prog 62 #[.slice (some ⟨g, 0, none⟩) n cap] w fun e w' => (∃ v, e = .returned v) ∧ Own 3 .i64 w' base (.slice (some ⟨g, 0, none⟩) n cap) n xs.reverse ∧ Fr [g] w w' := by
  have hxl := h.len
  have HXL := Lib.hid hxl
  clear hxl
  have u1 : IntKind.i64.wrap ((n : Int) - 1) = (n : Int) - 1 := IntWalk.i64_in _ (by omega)
  go_enter Tryz.func62, Tryz.ntmps62
  go_wp2
  go_loopw [2, 3] (fun i j wr => ∃ k : Nat, 2 * k ≤ n + 1 ∧ i = .int .i64 k ∧ j = .int .i64 ((n : Int) - 1 - k) ∧ ∃ row, Own 3 .i64 wr base (.slice (some ⟨g, 0, none⟩) n cap) n row ∧ (∀ t, t < n → row.getD t 0 = revE xs n k t) ∧ Fr [g] w wr) (fun i _ _ => n - (intOf i).toNat)
  case atStart => exact ⟨0, by omega, rfl, by go_num, xs, h, fun t ht => by simp [revE]; omega, Fr.refl _ _⟩
  case round =>
    clear h
    obtain ⟨k, hk, rfl, rfl, row, hown, hrow, hfr⟩ := hrel
    have hrl := hown.len
    by_cases hlt : 2 * k + 1 < n
    · have hst := revE_step hrl hlt hrow
      have e1 : row.getD k 0 = xs.getD k 0 := by rw [hrow k (by omega)]; unfold revE; rw [if_neg (by omega)]
      have e2 : row.getD (n - 1 - k) 0 = xs.getD (n - 1 - k) 0 := by rw [hrow _ (by omega)]; unfold revE; rw [if_neg (by omega)]
      have c1 := hown.get (k := k) (by omega)
      have c2 := hown.get (k := n - 1 - k) (by omega)
      rw [show row[k]'(by omega) = xs.getD k 0 by rw [← e1]; simp [List.getD, show k < row.length by omega]] at c1
      rw [show row[n - 1 - k]'(by omega) = xs.getD (n - 1 - k) 0 by rw [← e2]; simp [List.getD, show n - 1 - k < row.length by omega]] at c2
      obtain ⟨j, hj⟩ : ∃ j, j = n - 1 - k := ⟨_, rfl⟩
      rw [show (n : Int) - 1 - k = (j : Int) by omega]
      rw [← hj] at c2 hst e2
      have hjn : j < n := by omega
      have hkj : k < j := by omega
      generalize xs.getD k 0 = x at *
      generalize xs.getD j 0 = y at *
      have f1 := hown.frozen k
      have f2 := hown.frozen j
      have hset := (hown.set k y).set j x
      have HSET := Lib.hid hset
      have HF := Lib.hid ((hfr.set ⟨g, k, none⟩ (.inl (by simp)) (.int .i64 y)).set ⟨g, j, none⟩ (.inl (by simp)) (.int .i64 x))
      have HST := Lib.hid hst
      have HJ := Lib.hid hj
      have i1 : (0 : Int) ≤ (k : Int) := by omega
      have i2 : (k : Int) < (n : Int) := by omega
      have i3 : (0 : Int) ≤ (j : Int) := by omega
      have i4 : (j : Int) < (n : Int) := by omega
      have i5 : (k : Int) < (j : Int) := by omega
      have hne : ¬ k = j := by omega
      have hne2 : ¬ j = k := by omega
      have u2 : IntKind.i64.wrap ((j : Int) - 1) = (j : Int) - 1 := IntWalk.i64_in _ (by omega)
      clear hset hst e1 e2 hrow hown hfr hj hrl
      go_wp2_with fail
      go_region
      go_wp2
      go_roundw
      case rel => exact ⟨k + 1, by omega, by go_num, by rw [HJ.out]; go_num, _, HSET.out.drew, HST.out, HF.out.drew⟩
      case measure => simp [intOf]; omega
    · have hres := revE_all HXL.out hrl (by omega) hrow
      rw [hres] at hown
      have HOWN := Lib.hid hown
      have HFR := Lib.hid hfr
      have i5 : ¬ (k : Int) < (n : Int) - 1 - k := by omega
      clear hown hfr hrow hres hrl
      go_wp2
      go_end0
      exact ⟨⟨_, rfl⟩, HOWN.out, HFR.out⟩

/-- A train of rows of the call's own. -/
def RetT (ws ps : List Int) (w : World) (e : Ending) (w' : World) : Prop :=
  ∃ g1 c1 g2 c2, e = .returned (.agg #[.slice (some ⟨g1, 0, none⟩) ws.length c1, .slice (some ⟨g2, 0, none⟩) ps.length c2]) ∧
    Own 3 .i64 w' w.heap.size (.slice (some ⟨g1, 0, none⟩) ws.length c1) ws.length ws ∧ Own 3 .i64 w' w.heap.size (.slice (some ⟨g2, 0, none⟩) ps.length c2) ps.length ps ∧ Below w.heap.size w w'

set_option maxRecDepth 100000 in
set_option maxHeartbeats 1600000 in
theorem train_any (Ap : Option Addr) (np cp bx off m c : Nat) (ps ws : List Int) (w : World) (hp : Ints .i64 w Ap ps) (hpl : ps.length = np) (hpc : np ≤ cp) (hpA : Ap = none → cp = 0) (hp0 : 0 < np) (hp1 : np ≤ 12)
    (hw : Ints .i64 w (some ⟨bx, off, none⟩) ws) (hwl : ws.length = m) (hm0 : 0 < m) (hm1 : m ≤ 12) (hbx : bx < w.heap.size) :
    Calls Tryz.prog 42 #[.slice Ap np cp, .slice (some ⟨bx, off, none⟩) m c] w (RetT (isortL ws).reverse ps w) := by
  have HWL := Lib.hid hwl
  have HPL := Lib.hid hpl
  have hZ : Tryz.prog.funcs.size = Tryz.prog.funcs.size := rfl
  obtain ⟨W0, hW0⟩ : ∃ W0, W0 = w.alloc (.cells #[.slice none 0 0, .slice none 0 0] 48) := ⟨_, rfl⟩
  have hs0 : W0.heap.size = w.heap.size + 1 := by rw [hW0]; simp
  have hb0 : Below w.heap.size w W0 := by rw [hW0]; exact (Below.refl _ _).alloc (Nat.le_refl _) _
  have hR0 : W0.heap[w.heap.size]? = some (.cells #[.slice none 0 0, .slice none 0 0] 48 (0, 0)) := by rw [hW0]; exact heap_alloc_new _ _
  clear hZ
  go_enter Tryz.func42, Tryz.ntmps42
  go_wp2_with fail
  rw [← hW0]
  clear hW0
  refine (values_any _ _ _ _).mono ?_
  rintro e W1 ⟨rfl, rfl⟩
  have hone : One (W0.alloc (.cells #[.slice (some ⟨bx, off, none⟩) m c] 41)) (w.heap.size + 1) (.slice (some ⟨bx, off, none⟩) m c) 41 := One.newAt _ _ _ _ hs0
  have hb1 : Below (w.heap.size + 1) W0 (W0.alloc (.cells #[.slice (some ⟨bx, off, none⟩) m c] 41)) := (Below.refl _ _).alloc (by omega) _
  have hbw1 := hb0.trans (hb1.mono (by omega))
  have hs1 : (W0.alloc (.cells #[.slice (some ⟨bx, off, none⟩) m c] 41)).heap.size = w.heap.size + 1 + 1 := by simp [hs0]
  have hR1 := (hb1.block w.heap.size (by omega)).trans hR0
  generalize W0.alloc (.cells #[.slice (some ⟨bx, off, none⟩) m c] 41) = W1 at *
  clear hb1 hb0 hR0
  go_wp2_with fail
  refine (sorted_any (w.heap.size + 1) bx off m c ws W1 hm1 hm0 hone (hw.below hbw1) hwl (by have := hbw1.size; omega)).mono ?_
  rintro e W2 ⟨v1, rfl, ho1, hb2⟩
  rw [isortL_len, hwl] at ho1
  obtain ⟨g1, c1, rfl, hg1, hg2⟩ := ho1.form hm0
  have hbw2 := hbw1.trans (hb2.mono hbw1.size)
  have hs2 := hb2.size
  have hR2 := (hb2.block w.heap.size (by omega)).trans hR1
  clear hone hR1 hbw1 hw hb2
  go_wp2_with fail
  refine (clone_any Ap np cp ps W2 (hp.below hbw2) hpl hpc hpA (by omega)).mono ?_
  rintro e W3 ⟨v2, rfl, ho2, hb3⟩
  rw [hpl] at ho2
  obtain ⟨g2, c2, rfl, hg3, hg4⟩ := ho2.form hp0
  have hs3 := hb3.size
  have hR3 := (hb3.block w.heap.size (by omega)).trans hR2
  have hbw3 := hbw2.trans (hb3.mono hbw2.size)
  replace ho1 := ho1.below hb3
  clear hR2 hbw2 hp hb3
  obtain ⟨W4, hW4⟩ : ∃ W4, W4 = W3.alloc (.cells #[.slice (some ⟨g1, 0, none⟩) m c1, .slice (some ⟨g2, 0, none⟩) np c2] 48) := ⟨_, rfl⟩
  have hb4 : Below W3.heap.size W3 W4 := by rw [hW4]; exact (Below.refl _ _).alloc (Nat.le_refl _) _
  have hT4 : W4.heap[W3.heap.size]? = some (.cells #[.slice (some ⟨g1, 0, none⟩) m c1, .slice (some ⟨g2, 0, none⟩) np c2] 48 (0, 0)) := by rw [hW4]; exact heap_alloc_new _ _
  have hR4 := (hb4.block w.heap.size (by omega)).trans hR3
  have hs4 := hb4.size
  replace ho1 := ho1.below hb4
  replace ho2 := ho2.below hb4
  have hbw4 := hbw3.trans (hb4.mono hbw3.size)
  have cr := reverse_any W1.heap.size g1 m c1 (isortL ws) W4 ho1 (by omega) hm0
  have hne1 : g1 ≠ W3.heap.size := by omega
  have hne2 : g1 ≠ w.heap.size := by omega
  have hne3 : g1 ≠ g2 := by omega
  go_wp2_with fail
  rw [← hW4]
  clear hW4
  refine cr.mono ?_
  rintro e W5 ⟨⟨v, rfl⟩, ho5, hf5⟩
  have hlt4 : W3.heap.size < W4.heap.size := (Array.getElem?_eq_some_iff.1 hT4).1
  have hT5 := (hf5.block W3.heap.size hlt4 (by simp; omega)).trans hT4
  have hR5 := (hf5.block w.heap.size (by omega) (by simp; omega)).trans hR4
  have ho6 := ho2.fr hf5 (fun k hk => by cases hk; simp; omega)
  have hbw5 := hbw4.trans (hf5.belowOf (by omega) (fun k hk => by simp at hk; omega))
  have k0 : W5.cell? ⟨W3.heap.size, 0, none⟩ = some (.slice (some ⟨g1, 0, none⟩) m c1) := by simp [World.cell?, hT5]
  have k1 : W5.cell? ⟨W3.heap.size, 1, none⟩ = some (.slice (some ⟨g2, 0, none⟩) np c2) := by simp [World.cell?, hT5]
  have z0 : W5.cell? ⟨w.heap.size, 0, none⟩ = some (.slice none 0 0) := by simp [World.cell?, hR5]
  have z1 : W5.cell? ⟨w.heap.size, 1, none⟩ = some (.slice none 0 0) := by simp [World.cell?, hR5]
  have y0 : W5.frozen? ⟨w.heap.size, 0, none⟩ = false := by simp [World.frozen?, hR5]
  have y1 : W5.frozen? ⟨w.heap.size, 1, none⟩ = false := by simp [World.frozen?, hR5]
  have hne4 : g2 ≠ w.heap.size := by omega
  have HO5 := Lib.hid (ho5.mono (B := w.heap.size) (by omega))
  have HO6 := Lib.hid (ho6.mono (B := w.heap.size) (by omega))
  have HB5 := Lib.hid hbw5
  clear cr ho5 ho6 hbw5 hT5 hR5 hT4 hR4 hf5 hbw4 ho1 ho2 hb4 hlt4 hR3 hbw3
  go_wp2
  refine bodyPost_ret (v := .agg #[.slice (some ⟨g1, 0, none⟩) m c1, .slice (some ⟨g2, 0, none⟩) np c2]) (by simp [results, Tryz.results42, go_sem, z0, z1]) rfl ?_
  have hl1 : (isortL ws).reverse.length = m := by rw [List.length_reverse, isortL_len]; exact HWL.out
  refine ⟨g1, c1, g2, c2, by rw [hl1, HPL.out], ?_, ?_, (HB5.out.setCell (Nat.le_refl _) _).setCell (Nat.le_refl _) _⟩
  · rw [hl1]
    exact HO5.out.keep fun k hk => by cases hk; rw [Below.heap_setCell _ _ _ _ hne2, Below.heap_setCell _ _ _ _ hne2]
  · rw [HPL.out]
    exact HO6.out.keep fun k hk => by cases hk; rw [Below.heap_setCell _ _ _ _ hne4, Below.heap_setCell _ _ _ _ hne4]

end Go.Proofs.YtklngjjokbhfpaaGreatDoor
