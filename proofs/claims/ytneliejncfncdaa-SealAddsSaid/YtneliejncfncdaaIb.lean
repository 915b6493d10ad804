/- The code's Wet of good arguments, the reference's Wet. -/
import Derived.Test.YtneliejncfncdaaIa
import Derived.Test.YtneliejncfncdaaHi
namespace Go.Proofs.Ytneliejncfncdaa
open Go.RowKit

/-- The box of the pools lies at B, in W. -/
structure Box (w : World) (q t n : Int) (W : World) : Prop where
  k0 : W.cell? ⟨w.heap.size, 0, none⟩ = some (.int .i64 q)
  k1 : W.cell? ⟨w.heap.size, 1, none⟩ = some (.int .i64 t)
  k2 : W.cell? ⟨w.heap.size, 2, none⟩ = some (.int .i64 n)
  lt : w.heap.size < W.heap.size
  below : Below w.heap.size w W
theorem Box.new (w : World) (q t n : Int) : Box w q t n (w.alloc (.cells #[.int .i64 q, .int .i64 t, .int .i64 n] 35)) :=
  ⟨by simp [go_sem], by simp [go_sem], by simp [go_sem], by simp, (Below.refl _ _).alloc (Nat.le_refl _) _⟩
theorem Box.step {w : World} {q t n : Int} {W W' : World} (h : Box w q t n W) (hb : Below W.heap.size W W') : Box w q t n W' :=
  ⟨(hb.cell h.lt).trans h.k0, (hb.cell h.lt).trans h.k1, (hb.cell h.lt).trans h.k2, Nat.lt_of_lt_of_le h.lt hb.size, h.below.trans (hb.mono (Nat.le_of_lt h.lt))⟩
theorem Box.drewN {w : World} {q t n : Int} {W : World} (h : Box w q t n W) (z : Nat) : Box w q t n (W.drewN z) := ⟨h.k0, h.k1, h.k2, h.lt, h.below.drewN z⟩
theorem SlI.lieA {w : World} {v : Value} {xs : List Int} (h : SlI w v xs) {n : Nat} (hn : xs.length = n) : ∃ A c, v = .slice A n c ∧ Ints w A xs := by
  subst hn
  obtain ⟨A, c, hv, _, _, _, h4⟩ := h
  exact ⟨A, c, hv, h4⟩
theorem Bools.drewN {w : World} {A : Option Addr} {xs : List Bool} (h : Bools w A xs) (n : Nat) : Bools (w.drewN n) A xs := h

theorem setAll_take_succ (b : List Bool) (xs : List Int) (k : Nat) (hk : k < xs.length) : setAll b (xs.take (k + 1)) = (setAll b (xs.take k)).set xs[k].toNat true := by
  rw [List.take_add_one, List.getElem?_eq_getElem hk]
  exact setAll_snoc _ _ _
theorem wetM_take_succ (q : Int) (t n : Nat) (l : List Int) (k : Nat) (hk : k < l.length) : wetM q t n (l.take (k + 1)) = setAll (wetM q t n (l.take k)) (membersM q l[k] t n) := by
  rw [List.take_add_one, List.getElem?_eq_getElem hk]
  exact wetM_snoc _ _ _ _ _

theorem OwnB.form {w : World} {base n : Nat} {v : Value} {xs : List Bool} (h : OwnB w base v n xs) (hn : 0 < n) : ∃ g cap, v = .slice (some ⟨g, 0, none⟩) n cap ∧ base ≤ g ∧ g < w.heap.size := World.ownsRow.form h hn
theorem OwnB.cell {w : World} {base n g cap : Nat} {xs : List Bool} (h : OwnB w base (.slice (some ⟨g, 0, none⟩) n cap) n xs) {k : Nat} (hk : k < n) : ∃ y, w.cell? ⟨g, k, none⟩ = some (.bool y) := by
  have hl := h.len
  exact ⟨_, h.get (k := k) (by omega)⟩
theorem OwnB.mono {w : World} {base n : Nat} {v : Value} {xs : List Bool} (h : OwnB w base v n xs) {B : Nat} (hB : B ≤ base) : OwnB w B v n xs := by
  refine ⟨h.1, ?_⟩
  rcases h.2 with h' | ⟨g, cap, cur, h1, h2, h3⟩
  · exact .inl h'
  · exact .inr ⟨g, cap, cur, h1, by omega, h3⟩
theorem OwnB.bools {w : World} {base n cap : Nat} {A : Option Addr} {xs : List Bool} (h : OwnB w base (.slice A n cap) n xs) : Bools w A xs := by
  have hl := h.len
  subst hl
  have h2 : w.ownsRow base 4 1 (.slice A xs.length cap) (xs.map Value.bool).length (xs.map Value.bool) := by simpa using h.out
  obtain ⟨A', c', hv, _, _, _, hA⟩ := sl_of_own h2
  rw [List.length_map] at hv
  cases hv
  exact hA

theorem RetOwn.lie {xs : List Int} {w w' : World} {e : Ending} (h : RetOwn xs w e w') {n : Nat} (hn : xs.length = n) :
    ∃ A c, e = .returned (.slice A n c) ∧ Ints w' A xs ∧ (∀ a, A = some a → w.heap.size ≤ a.block) ∧ Below w.heap.size w w' := by
  obtain ⟨v, he, ho, hb⟩ := h
  rw [hn] at ho
  have hl := ho.lt
  obtain ⟨A, c, hv, _, _, _, hA⟩ := ho.sli
  subst hn
  exact ⟨A, c, by rw [he, hv], hA, fun a ha => (hl a.block (by rw [hv, ha]; rfl)).1, hb⟩

set_option maxRecDepth 100000 in
set_option maxHeartbeats 1600000 in
theorem Wet_good (q I : Int) (t n m N : Nat) (A : Option Addr) (c : Nat) (l : List Int) (w : World) (hq : 2 ≤ q ∧ q ≤ 31) (ht : t ≤ 31) (hn : 1 ≤ n ∧ n ≤ 31) (hN : n * q.toNat = N)
    (hI : itemsM q t n = I) (hI1 : 0 < I ∧ I ≤ 1000) (hA : Ints w A l) (hm : l.length = m) (hb : m ≤ 1000000) (hr : rsB I (-1) l = true) :
    Calls Try.prog 42 #[pools q t n, .slice A m c] w fun e w' => ∃ g : Nat, e = .returned (.tuple #[.slice (some ⟨g, 0, none⟩) N N, .int .i64 0]) ∧ OwnB w' (w.heap.size + 1) (.slice (some ⟨g, 0, none⟩) N N) N (wetM q t n l) ∧ Below w.heap.size w w' := by
  obtain ⟨hq1, hq2⟩ := hq
  obtain ⟨hn1, hn2⟩ := hn
  obtain ⟨hI2, hI3⟩ := hI1
  have hb0 : Below (w.heap.size + 1) (w.alloc (.cells #[.int .i64 q, .int .i64 t, .int .i64 n] 35)) (w.alloc (.cells #[.int .i64 q, .int .i64 t, .int .i64 n] 35)) := Below.refl _ _
  have hb00 : Below w.heap.size w (w.alloc (.cells #[.int .i64 q, .int .i64 t, .int .i64 n] 35)) := (Below.refl _ _).alloc (Nat.le_refl _) _
  have c64 : ∀ W, Calls Try.prog 64 #[pools q t n] W fun e w' => e = .returned (.int .i64 I) ∧ Below W.heap.size W w' := fun W => by rw [← hI]; exact items_any q t n W
  have c73 : ∀ W, Ints W A l → Calls Try.prog 73 #[.slice A m c, .int .i64 I] W fun e w' => e = .returned (.bool true) ∧ W = w' := fun W hI => by
    have := (rising_any A c m l I W hI hm hb).mono fun e w' h => (⟨h.1, h.2.symm⟩ : e = .returned (.bool (rsB I (-1) l)) ∧ W = w')
    rwa [hr] at this
  have hbI : (I == 0) = false := by simp; omega
  have hNI : ((N : Nat) : Int) = n * q := by rw [← hN, Int.natCast_mul, show ((q.toNat : Nat) : Int) = q by omega]
  have hnq1 : 0 ≤ (n : Int) * q := Int.mul_nonneg (by omega) (by omega)
  have hnq2 : (n : Int) * q ≤ 31 * 31 := Int.mul_le_mul (by omega) hq2 (by omega) (by omega)
  have hnq3 : 0 < (n : Int) * q := Int.mul_pos (by omega) (by omega)
  have hbd := rsB_bd l (-1) hr
  have HNI := Lib.hid hNI
  have HBD := Lib.hid hbd
  have HM := Lib.hid hm
  have HN := Lib.hid hN
  clear hI hr hNI hbd hm hN
  go_enter Try.func42, Try.ntmps42
  go_wp2_with (first | (go_at_call 64; refine (c64 _).mono ?_; rintro e w1 ⟨rfl, hb1⟩; have hbs := hb0.trans (hb1.mono (by simp)); have hI1 := hA.below (hb00.trans (hb1.mono (by simp))); have hs1 := hb1.size; simp at hs1; have k0 := hbs.cell (p := ⟨w.heap.size, 0, none⟩) (by simp); have k1 := hbs.cell (p := ⟨w.heap.size, 1, none⟩) (by simp); have k2 := hbs.cell (p := ⟨w.heap.size, 2, none⟩) (by simp); simp [go_sem] at k0 k1 k2) | (go_at_call 73; refine (c73 _ hI1).mono ?_; rintro e w' ⟨rfl, rfl⟩) | (at_make; refine wpList_makeBools _ rfl _ _ rfl w1.heap.size _ _ N rfl rfl HNI.out.symm HNI.out.symm (by have := HNI.out; omega) (Nat.le_refl _) ?_))
  intro w2 hown hgr
  have hb2 : Below (w.heap.size + 1) (w.alloc (.cells #[.int .i64 q, .int .i64 t, .int .i64 n] 35)) w2 := hbs.grown hgr (by omega) (by intro k hk; cases hk)
  have hown : OwnB w2 (w.heap.size + 1) (.slice (some ⟨w1.heap.size, 0, none⟩) N N) N (wetM q t n (l.take 0)) := by
    have := hown.mono (B := w.heap.size + 1) (by omega)
    simpa [wetM, HN.out] using this
  have HB0 := Lib.hid hb00
  clear hgr hbs hI1 hb1 c64 c73 hb0 k0 k1 k2 hb00
  generalize w1.heap.size = g at *
  have hg1 : w.heap.size + 1 ≤ g := (hown.lt g rfl).1
  clear hs1
  go_wp2
  go_loopw [30] (fun i wr => ∃ k : Nat, k ≤ m ∧ i = .int .i64 k ∧ OwnB wr (w.heap.size + 1) (.slice (some ⟨g, 0, none⟩) N N) N (wetM q t n (l.take k)) ∧ Below (w.heap.size + 1) (w.alloc (.cells #[.int .i64 q, .int .i64 t, .int .i64 n] 35)) wr) (fun i _ => m - (intOf i).toNat)
  case atStart => exact ⟨0, by omega, rfl, hown, hb2⟩
  case round =>
    clear hown hb2
    obtain ⟨k, hk, rfl, hown, hbl⟩ := hrel
    have k0 := hbl.cell (p := ⟨w.heap.size, 0, none⟩) (by simp)
    have k1 := hbl.cell (p := ⟨w.heap.size, 1, none⟩) (by simp)
    have k2 := hbl.cell (p := ⟨w.heap.size, 2, none⟩) (by simp)
    simp [go_sem] at k0 k1 k2
    have hsz := hbl.size
    simp at hsz
    by_cases hlt : k < m
    · obtain ⟨b, off, rfl, hbA, hc⟩ := (hA.below (HB0.out.trans (hbl.mono (by omega)))).get (k := k) (by rw [HM.out]; exact hlt)
      have hit := HBD.out k (by rw [HM.out]; exact hlt)
      have hwt := wetM_take_succ q t n l k (by rw [HM.out]; exact hlt)
      generalize l[k]'(by rw [HM.out]; exact hlt) = item at *
      obtain ⟨hit1, hit2⟩ := hit
      have cm : ∀ W, Calls Try.prog 65 #[pools q t n, .int .i64 item] W (RetOwn (membersM q item t n) W) := fun W => members_own q item t n W ⟨hq1, hq2⟩ ht hn2 ⟨by omega, by omega⟩
      have hmb := fun (j : Nat) (hj : j < (membersM q item t n).length) => members_bd (q := q) (item := item) hq1 t n hj
      have hml := membersM_length q item t n
      have HWT := Lib.hid hwt
      have HMB := Lib.hid hmb
      have HML := Lib.hid hml
      clear hwt hmb hml
      generalize membersM q item t n = xs at *
      go_wp2_with (go_at_call 65; refine (cm _).mono ?_; intro e w3 hs; obtain ⟨A3, c3, rfl, hX, hX0, hb3⟩ := hs.lie HML.out)
      have hown3 : OwnB w3 (w.heap.size + 1) (.slice (some ⟨g, 0, none⟩) N N) N (setAll (wetM q t n (l.take k)) (xs.take 0)) := by
        have := hown.below hb3
        simpa [setAll] using this
      have hbl3 := hbl.trans (hb3.mono (by omega))
      have hgl := (hown.lt g rfl).2
      have hX1 : ∀ a, A3 = some a → a.block ∉ [g] := by
        intro a ha hm
        have := hX0 a ha
        simp at hm
        omega
      have HX1 := Lib.hid hX1
      clear hX1 hX0 hown hbl hb3 k0 k1 k2 cm
      obtain ⟨wo, rfl⟩ : ∃ wo, wo = w3 := ⟨_, rfl⟩
      go_loopw [38] (fun i wr => ∃ j : Nat, j ≤ n ∧ i = .int .i64 j ∧ OwnB wr (w.heap.size + 1) (.slice (some ⟨g, 0, none⟩) N N) N (setAll (wetM q t n (l.take k)) (xs.take j)) ∧ Fr [g] wo wr ∧ Below (w.heap.size + 1) (w.alloc (.cells #[.int .i64 q, .int .i64 t, .int .i64 n] 35)) wr) (fun i _ => n - (intOf i).toNat)
      case atStart => exact ⟨0, by omega, rfl, hown3, Fr.refl _ _, hbl3⟩
      case round =>
        clear hown3 hbl3
        obtain ⟨j, hj, rfl, hown, hfr, hbl⟩ := hrel
        by_cases hlj : j < n
        · obtain ⟨b3, o3, rfl, hb3, hc3⟩ := Ints.get (At.fr hX hfr HX1.out) (k := j) (by rw [HML.out]; exact hlj)
          have hpb := HMB.out j (by rw [HML.out]; exact hlj)
          have hts := setAll_take_succ (wetM q t n (l.take k)) xs j (by rw [HML.out]; exact hlj)
          generalize xs[j]'(by rw [HML.out]; exact hlj) = p at *
          obtain ⟨hp1, hp2⟩ := hpb
          have hp3 : p < ((N : Nat) : Int) := by rw [HNI.out]; exact hp2
          have hp4 : p.toNat < N := by omega
          obtain ⟨pn, rfl⟩ : ∃ pn : Nat, p = pn := ⟨p.toNat, by omega⟩
          rw [Int.toNat_natCast] at hts hp4
          obtain ⟨y, hy⟩ := hown.cell hp4
          have hfz := hown.frozen pn
          have HTS := Lib.hid hts
          clear hts hp2
          go_wp2
          go_roundw
          case rel => exact ⟨j + 1, by omega, by go_num, by rw [HTS.out]; exact hown.set pn true, hfr.set _ (.inl (by simp)) _, hbl.setCell (by simp; omega) _⟩
          case measure => simp [intOf]; omega
        · obtain rfl : j = n := by omega
          have hfin : setAll (wetM q t j (l.take k)) (xs.take j) = wetM q t j (l.take (k + 1)) := by
            rw [HWT.out, List.take_of_length_le (l := xs) (by rw [HML.out]; omega)]
          rw [hfin] at hown
          clear hfin
          go_wp2
          go_roundw
          case rel => exact ⟨k + 1, by omega, by go_num, hown, hbl⟩
          case measure => simp [intOf]; omega
    · obtain rfl : k = m := by omega
      rw [List.take_of_length_le (by rw [HM.out]; omega)] at hown
      have hbf := HB0.out.trans (hbl.mono (by omega))
      clear k0 k1 k2
      go_wp2
      go_ret2
      exact ⟨g, rfl, hown, hbf⟩
end Go.Proofs.Ytneliejncfncdaa
