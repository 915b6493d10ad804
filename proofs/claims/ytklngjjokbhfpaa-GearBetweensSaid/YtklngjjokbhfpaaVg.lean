/- slices.Reverse; gear's train. -/
import Derived.Test.YtklngjjokbhfpaaVf
namespace Go.Proofs.Ytklngjjokbhfpaa
open Go.RowKit Go.Shelf

/-- The element while the row is turned round. -/
def revE (xs : List Int) (n k t : Nat) : Int := if t < k ∨ n - k ≤ t then xs.getD (n - 1 - t) 0 else xs.getD t 0
theorem revE_all {xs row : List Int} {n k : Nat} (hx : xs.length = n) (hr : row.length = n) (hk : n ≤ 2 * k + 1) (h : ∀ t, t < n → row.getD t 0 = revE xs n k t) : row = xs.reverse := by
  refine List.ext_getElem (by simp [hx, hr]) fun t h1 h2 => ?_
  have ht : t < n := by omega
  have h3 := h t ht
  have h4 : row.getD t 0 = row[t] := by simp [List.getD, h1]
  rw [← h4, h3, List.getElem_reverse]
  have h5 : ∀ i (hi : i < xs.length), xs.getD i 0 = xs[i] := fun i hi => by simp [List.getD, hi]
  unfold revE
  split
  · rw [h5 _ (by omega)]; congr 1; omega
  · rw [h5 _ (by omega)]; congr 1; omega
theorem getD_set (l : List Int) (i j : Nat) (v : Int) (hi : i < l.length) : (l.set i v).getD j 0 = if j = i then v else l.getD j 0 := by
  by_cases e : j = i
  · subst e; simp [List.getD, hi]
  · rw [if_neg e]; simp [List.getD, List.getElem?_set_ne (Ne.symm e)]
theorem revE_step {xs row : List Int} {n k : Nat} (hr : row.length = n) (hk : 2 * k + 1 < n) (h : ∀ t, t < n → row.getD t 0 = revE xs n k t) :
    ∀ t, t < n → ((row.set k (xs.getD (n - 1 - k) 0)).set (n - 1 - k) (xs.getD k 0)).getD t 0 = revE xs n (k + 1) t := by
  intro t ht
  rw [getD_set _ _ _ _ (by simp; omega), getD_set _ _ _ _ (by omega), h t ht]
  unfold revE
  by_cases e1 : t = n - 1 - k
  · rw [if_pos e1, if_pos (by omega)]; subst e1; congr 1; omega
  · rw [if_neg e1]
    by_cases e2 : t = k
    · rw [if_pos e2, if_pos (by omega), e2]
    · rw [if_neg e2]
      by_cases e3 : t < k ∨ n - k ≤ t
      · rw [if_pos e3, if_pos (by omega)]
      · rw [if_neg e3, if_neg (by omega)]

set_option maxRecDepth 100000 in
set_option maxHeartbeats 1600000 in
theorem reverse_any (base g n cap : Nat) (xs : List Int) (w : World) (h : Own 3 .i64 w base (.slice (some ⟨g, 0, none⟩) n cap) n xs) (hn : n ≤ 100000) (hn0 : 0 < n) :
    Calls Try.prog 93 #[.slice (some ⟨g, 0, none⟩) n cap] w fun e w' => (∃ v, e = .returned v) ∧ Own 3 .i64 w' base (.slice (some ⟨g, 0, none⟩) n cap) n xs.reverse ∧ Fr [g] w w' := by
  have hxl := h.len
  have HXL := Lib.hid hxl
  clear hxl
  have u1 : IntKind.i64.wrap ((n : Int) - 1) = (n : Int) - 1 := IntWalk.i64_in _ (by omega)
  go_enter Try.func93, Try.ntmps93
  go_wp2
  go_loopw [2, 3] (fun i j wr => ∃ k : Nat, 2 * k ≤ n + 1 ∧ i = .int .i64 k ∧ j = .int .i64 ((n : Int) - 1 - k) ∧ ∃ row, Own 3 .i64 wr base (.slice (some ⟨g, 0, none⟩) n cap) n row ∧ (∀ t, t < n → row.getD t 0 = revE xs n k t) ∧ Fr [g] w wr) (fun i _ _ => n - (intOf i).toNat)
  case atStart => exact ⟨0, by omega, rfl, by go_num, xs, h, fun t ht => by simp [revE]; omega, Fr.refl _ _⟩
  case round =>
    clear h
    obtain ⟨k, hk, rfl, rfl, row, hown, hrow, hfr⟩ := hrel
    have hrl := hown.len
    by_cases hlt : 2 * k + 1 < n
    · have hst := revE_step hrl hlt hrow
      have e1 : row.getD k 0 = xs.getD k 0 := by rw [hrow k (by omega)]; unfold revE; rw [if_neg (by omega)]
      have e2 : row.getD (n - 1 - k) 0 = xs.getD (n - 1 - k) 0 := by rw [hrow _ (by omega)]; unfold revE; rw [if_neg (by omega)]
      have c1 := hown.get (k := k) (by omega)
      have c2 := hown.get (k := n - 1 - k) (by omega)
      rw [show row[k]'(by omega) = xs.getD k 0 by rw [← e1]; simp [List.getD, show k < row.length by omega]] at c1
      rw [show row[n - 1 - k]'(by omega) = xs.getD (n - 1 - k) 0 by rw [← e2]; simp [List.getD, show n - 1 - k < row.length by omega]] at c2
      obtain ⟨j, hj⟩ : ∃ j, j = n - 1 - k := ⟨_, rfl⟩
      rw [show (n : Int) - 1 - k = (j : Int) by omega]
      rw [← hj] at c2 hst e2
      have hjn : j < n := by omega
      have hkj : k < j := by omega
      generalize xs.getD k 0 = x at *
      generalize xs.getD j 0 = y at *
      have f1 := hown.frozen k
      have f2 := hown.frozen j
      have hset := (hown.set k y).set j x
      have HSET := Lib.hid hset
      have HF := Lib.hid ((hfr.set ⟨g, k, none⟩ (.inl (by simp)) (.int .i64 y)).set ⟨g, j, none⟩ (.inl (by simp)) (.int .i64 x))
      have HST := Lib.hid hst
      have HJ := Lib.hid hj
      have i1 : (0 : Int) ≤ (k : Int) := by omega
      have i2 : (k : Int) < (n : Int) := by omega
      have i3 : (0 : Int) ≤ (j : Int) := by omega
      have i4 : (j : Int) < (n : Int) := by omega
      have i5 : (k : Int) < (j : Int) := by omega
      have hne : ¬ k = j := by omega
      have hne2 : ¬ j = k := by omega
      have u2 : IntKind.i64.wrap ((j : Int) - 1) = (j : Int) - 1 := IntWalk.i64_in _ (by omega)
      clear hset hst e1 e2 hrow hown hfr hj hrl
      go_wp2_with fail
      go_region
      go_wp2
      go_roundw
      case rel => exact ⟨k + 1, by omega, by go_num, by rw [HJ.out]; go_num, _, HSET.out.drew, HST.out, HF.out.drew⟩
      case measure => simp [intOf]; omega
    · have hres := revE_all HXL.out hrl (by omega) hrow
      rw [hres] at hown
      have HOWN := Lib.hid hown
      have HFR := Lib.hid hfr
      have i5 : ¬ (k : Int) < (n : Int) - 1 - k := by omega
      clear hown hfr hrow hres hrl
      go_wp2
      go_end0
      exact ⟨⟨_, rfl⟩, HOWN.out, HFR.out⟩

/-- A train of rows of the call's own. -/
def RetT (ws ps : List Int) (w : World) (e : Ending) (w' : World) : Prop :=
  ∃ g1 c1 g2 c2, e = .returned (.agg #[.slice (some ⟨g1, 0, none⟩) ws.length c1, .slice (some ⟨g2, 0, none⟩) ps.length c2]) ∧
    Own 3 .i64 w' w.heap.size (.slice (some ⟨g1, 0, none⟩) ws.length c1) ws.length ws ∧ Own 3 .i64 w' w.heap.size (.slice (some ⟨g2, 0, none⟩) ps.length c2) ps.length ps ∧ Below w.heap.size w w'

set_option maxRecDepth 100000 in
set_option maxHeartbeats 1600000 in
theorem train_any (Ap : Option Addr) (np cp bx off m c : Nat) (ps ws : List Int) (w : World) (hp : Ints .i64 w Ap ps) (hpl : ps.length = np) (hpc : np ≤ cp) (hpA : Ap = none → cp = 0) (hp0 : 0 < np) (hp1 : np ≤ 12)
    (hw : Ints .i64 w (some ⟨bx, off, none⟩) ws) (hwl : ws.length = m) (hm0 : 0 < m) (hm1 : m ≤ 12) (hbx : bx < w.heap.size) :
    Calls Try.prog 65 #[.slice Ap np cp, .slice (some ⟨bx, off, none⟩) m c] w (RetT (isortL ws).reverse ps w) := by
  have HWL := Lib.hid hwl
  have HPL := Lib.hid hpl
  have hZ : Try.prog.funcs.size = Try.prog.funcs.size := rfl
  obtain ⟨W0, hW0⟩ : ∃ W0, W0 = w.alloc (.cells #[.slice none 0 0, .slice none 0 0] 54) := ⟨_, rfl⟩
  have hs0 : W0.heap.size = w.heap.size + 1 := by rw [hW0]; simp
  have hb0 : Below w.heap.size w W0 := by rw [hW0]; exact (Below.refl _ _).alloc (Nat.le_refl _) _
  have hR0 : W0.heap[w.heap.size]? = some (.cells #[.slice none 0 0, .slice none 0 0] 54 (0, 0)) := by rw [hW0]; exact heap_alloc_new _ _
  clear hZ
  go_enter Try.func65, Try.ntmps65
  go_wp2_with fail
  rw [← hW0]
  clear hW0
  refine (values_any _ _ _ _).mono ?_
  rintro e W1 ⟨rfl, rfl⟩
  have hone : One (W0.alloc (.cells #[.slice (some ⟨bx, off, none⟩) m c] 31)) (w.heap.size + 1) (.slice (some ⟨bx, off, none⟩) m c) 31 := One.newAt _ _ _ _ hs0
  have hb1 : Below (w.heap.size + 1) W0 (W0.alloc (.cells #[.slice (some ⟨bx, off, none⟩) m c] 31)) := (Below.refl _ _).alloc (by omega) _
  have hbw1 := hb0.trans (hb1.mono (by omega))
  have hs1 : (W0.alloc (.cells #[.slice (some ⟨bx, off, none⟩) m c] 31)).heap.size = w.heap.size + 1 + 1 := by simp [hs0]
  have hR1 := (hb1.block w.heap.size (by omega)).trans hR0
  generalize W0.alloc (.cells #[.slice (some ⟨bx, off, none⟩) m c] 31) = W1 at *
  clear hb1 hb0 hR0
  go_wp2_with fail
  refine (sorted_any (w.heap.size + 1) bx off m c ws W1 hm1 hm0 hone (hw.below hbw1) hwl (by have := hbw1.size; omega)).mono ?_
  rintro e W2 ⟨v1, rfl, ho1, hb2⟩
  rw [isortL_len, hwl] at ho1
  obtain ⟨g1, c1, rfl, hg1, hg2⟩ := ho1.form hm0
  have hbw2 := hbw1.trans (hb2.mono hbw1.size)
  have hs2 := hb2.size
  have hR2 := (hb2.block w.heap.size (by omega)).trans hR1
  clear hone hR1 hbw1 hw hb2
  go_wp2_with fail
  refine (clone_any Ap np cp ps W2 (hp.below hbw2) hpl hpc hpA (by omega)).mono ?_
  rintro e W3 ⟨v2, rfl, ho2, hb3⟩
  rw [hpl] at ho2
  obtain ⟨g2, c2, rfl, hg3, hg4⟩ := ho2.form hp0
  have hs3 := hb3.size
  have hR3 := (hb3.block w.heap.size (by omega)).trans hR2
  have hbw3 := hbw2.trans (hb3.mono hbw2.size)
  replace ho1 := ho1.below hb3
  clear hR2 hbw2 hp hb3
  obtain ⟨W4, hW4⟩ : ∃ W4, W4 = W3.alloc (.cells #[.slice (some ⟨g1, 0, none⟩) m c1, .slice (some ⟨g2, 0, none⟩) np c2] 54) := ⟨_, rfl⟩
  have hb4 : Below W3.heap.size W3 W4 := by rw [hW4]; exact (Below.refl _ _).alloc (Nat.le_refl _) _
  have hT4 : W4.heap[W3.heap.size]? = some (.cells #[.slice (some ⟨g1, 0, none⟩) m c1, .slice (some ⟨g2, 0, none⟩) np c2] 54 (0, 0)) := by rw [hW4]; exact heap_alloc_new _ _
  have hR4 := (hb4.block w.heap.size (by omega)).trans hR3
  have hs4 := hb4.size
  replace ho1 := ho1.below hb4
  replace ho2 := ho2.below hb4
  have hbw4 := hbw3.trans (hb4.mono hbw3.size)
  have cr := reverse_any W1.heap.size g1 m c1 (isortL ws) W4 ho1 (by omega) hm0
  have hne1 : g1 ≠ W3.heap.size := by omega
  have hne2 : g1 ≠ w.heap.size := by omega
  have hne3 : g1 ≠ g2 := by omega
  go_wp2_with fail
  rw [← hW4]
  clear hW4
  refine cr.mono ?_
  rintro e W5 ⟨⟨v, rfl⟩, ho5, hf5⟩
  have hlt4 : W3.heap.size < W4.heap.size := (Array.getElem?_eq_some_iff.1 hT4).1
  have hT5 := (hf5.block W3.heap.size hlt4 (by simp; omega)).trans hT4
  have hR5 := (hf5.block w.heap.size (by omega) (by simp; omega)).trans hR4
  have ho6 := ho2.fr hf5 (fun k hk => by cases hk; simp; omega)
  have hbw5 := hbw4.trans (hf5.belowOf (by omega) (fun k hk => by simp at hk; omega))
  have k0 : W5.cell? ⟨W3.heap.size, 0, none⟩ = some (.slice (some ⟨g1, 0, none⟩) m c1) := by simp [World.cell?, hT5]
  have k1 : W5.cell? ⟨W3.heap.size, 1, none⟩ = some (.slice (some ⟨g2, 0, none⟩) np c2) := by simp [World.cell?, hT5]
  have z0 : W5.cell? ⟨w.heap.size, 0, none⟩ = some (.slice none 0 0) := by simp [World.cell?, hR5]
  have z1 : W5.cell? ⟨w.heap.size, 1, none⟩ = some (.slice none 0 0) := by simp [World.cell?, hR5]
  have y0 : W5.frozen? ⟨w.heap.size, 0, none⟩ = false := by simp [World.frozen?, hR5]
  have y1 : W5.frozen? ⟨w.heap.size, 1, none⟩ = false := by simp [World.frozen?, hR5]
  have hne4 : g2 ≠ w.heap.size := by omega
  have HO5 := Lib.hid (ho5.mono (B := w.heap.size) (by omega))
  have HO6 := Lib.hid (ho6.mono (B := w.heap.size) (by omega))
  have HB5 := Lib.hid hbw5
  clear cr ho5 ho6 hbw5 hT5 hR5 hT4 hR4 hf5 hbw4 ho1 ho2 hb4 hlt4 hR3 hbw3
  go_wp2
  refine bodyPost_ret (v := .agg #[.slice (some ⟨g1, 0, none⟩) m c1, .slice (some ⟨g2, 0, none⟩) np c2]) (by simp [results, Try.results65, go_sem, z0, z1]) rfl ?_
  have hl1 : (isortL ws).reverse.length = m := by rw [List.length_reverse, isortL_len]; exact HWL.out
  refine ⟨g1, c1, g2, c2, by rw [hl1, HPL.out], ?_, ?_, (HB5.out.setCell (Nat.le_refl _) _).setCell (Nat.le_refl _) _⟩
  · rw [hl1]
    exact HO5.out.keep fun k hk => by cases hk; rw [Below.heap_setCell _ _ _ _ hne2, Below.heap_setCell _ _ _ _ hne2]
  · rw [HPL.out]
    exact HO6.out.keep fun k hk => by cases hk; rw [Below.heap_setCell _ _ _ _ hne4, Below.heap_setCell _ _ _ _ hne4]

end Go.Proofs.Ytklngjjokbhfpaa
