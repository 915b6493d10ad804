/- Texts Ia Ib in one. -/
import Derived.Test.YtneliejncfncdaaPkQ
import Derived.Test.YtneliejncfncdaaPkHa
namespace Go.Proofs.Ytneliejncfncdaa
open Go.RowKit

theorem ownI_lit (w : World) (base : Nat) (hb : base ≤ w.heap.size) : OwnI (w.alloc (.cells #[] 3)) base (.slice (some ⟨w.heap.size, 0, none⟩) 0 0) 0 [] :=
  World.ownsRow_lit w #[] 0 hb (by simp [maxLen]) rfl

theorem Fr.grown {S : List Nat} {a b c : World} {r : Option Nat} (h : Fr S a b) (g : b.grownBy c r) (hr : ∀ k, r = some k → k ∈ S ∨ a.heap.size ≤ k) : Fr S a c :=
  ⟨g.os.trans h.os, g.tape.trans h.tape, g.output.trans h.output, Nat.le_trans h.size g.size, fun k hk hn => (g.block k (Nat.lt_of_lt_of_le hk h.size) fun e => by
    rcases hr k e.symm with h' | h'
    · exact hn h'
    · omega).trans (h.block k hk hn)⟩

set_option maxRecDepth 100000 in
set_option maxHeartbeats 1600000 in
theorem refMembers_own (q item : Int) (t n : Nat) (w : World) (hq : 2 ≤ q ∧ q ≤ 31) (ht : t ≤ 31) (hn : n ≤ 31) (hi : 0 ≤ item ∧ item ≤ 1000000) :
    Calls Try.prog 48 #[pools q t n, .int .i64 item] w (RetOwn (membersM q item t n) w) := by
  obtain ⟨hq1, hq2⟩ := hq
  obtain ⟨hi1, hi2⟩ := hi
  have hin : ∃ W : World, W = ((w.alloc (.cells #[.int .i64 q, .int .i64 t, .int .i64 n] 35)).alloc (.cells #[] 3)).alloc (.cells #[] 3) := ⟨_, rfl⟩
  obtain ⟨W0, hW0⟩ := hin
  have hd0 : OwnI W0 (w.heap.size + 1) (.slice (some ⟨w.heap.size + 1, 0, none⟩) 0 0) 0 [] := by
    rw [hW0]
    have := (ownI_lit (w.alloc (.cells #[.int .i64 q, .int .i64 t, .int .i64 n] 35)) (w.heap.size + 1) (by simp)).alloc (.cells #[] 3)
    simpa using this
  have ho0 : OwnI W0 (w.heap.size + 1) (.slice (some ⟨w.heap.size + 2, 0, none⟩) 0 0) 0 [] := by
    rw [hW0]
    have := ownI_lit ((w.alloc (.cells #[.int .i64 q, .int .i64 t, .int .i64 n] 35)).alloc (.cells #[] 3)) (w.heap.size + 1) (by simp)
    simpa using this
  have hB0 : Below (w.heap.size + 1) (w.alloc (.cells #[.int .i64 q, .int .i64 t, .int .i64 n] 35)) W0 := by
    rw [hW0]
    exact ((Below.refl _ _).alloc (by simp) _).alloc (by simp) _
  have HW := Lib.hid hW0
  clear hW0
  go_enter Try.func48, Try.ntmps48
  go_wp2
  rw [← HW.out]
  have hDO : (Value.slice (some ⟨w.heap.size + 1, 0, none⟩) 0 0).ownBlock ≠ (Value.slice (some ⟨w.heap.size + 2, 0, none⟩) 0 0).ownBlock := by simp [Value.ownBlock]
  go_loopw [1, 5, 7] (fun s d i wr => ∃ k : Nat, k ≤ t ∧ i = .int .i64 k ∧ s = .int .i64 (item / q ^ k) ∧ OwnI wr (w.heap.size + 1) d k (digs q item k) ∧
      OwnI wr (w.heap.size + 1) (.slice (some ⟨w.heap.size + 2, 0, none⟩) 0 0) 0 [] ∧ d.ownBlock ≠ some (w.heap.size + 2) ∧
      Below (w.heap.size + 1) (w.alloc (.cells #[.int .i64 q, .int .i64 t, .int .i64 n] 35)) wr) (fun _ _ i _ => t - (intOf i).toNat)
  case atStart => exact ⟨0, by omega, rfl, by simp, hd0, ho0, hDO, hB0⟩
  case round =>
    clear hd0 ho0 hDO hB0
    obtain ⟨k, hk, rfl, rfl, hown, hout, hdo, hbl⟩ := hrel
    have c0 : wr.cell? ⟨w.heap.size, 0, none⟩ = some (.int .i64 q) := (hbl.cell (by simp)).trans (by simp [go_sem])
    have c1 : wr.cell? ⟨w.heap.size, 1, none⟩ = some (.int .i64 t) := (hbl.cell (by simp)).trans (by simp [go_sem])
    have c2 : wr.cell? ⟨w.heap.size, 2, none⟩ = some (.int .i64 n) := (hbl.cell (by simp)).trans (by simp [go_sem])
    have hsz : w.heap.size + 1 ≤ wr.heap.size := by have := hbl.size; simp at this; omega
    have hos : w.heap.size + 2 < wr.heap.size := (hout.lt _ rfl).2
    have hds := digs_succ q item k
    have hdiv : item / q ^ k / q = item / q ^ (k + 1) := by
      rw [Int.pow_succ, Int.ediv_ediv_of_nonneg]
      have := pow_bd (q := q) (by omega) k
      omega
    have hlo : 0 ≤ item / q ^ k := Int.ediv_nonneg hi1 (by have := pow_bd (q := q) (by omega) k; omega)
    have hhi : item / q ^ k ≤ 1000000 := by have := Int.ediv_le_self (q ^ k) hi1; omega
    generalize item / q ^ k = s at *
    have HD := Lib.hid hds
    have HV := Lib.hid hdiv
    have HDO := Lib.hid hdo
    clear hds hdiv hdo
    by_cases hlt : k < t
    · go_wp2_with (at_builtin; refine wpList_int _ rfl _ _ rfl (w.heap.size + 1) _ k (digs q item k) rfl (hown.alloc _) wr.heap.size (s % q) rfl (heap_alloc_new wr _) (by omega) (by simp; omega) (wr.heap.size + 1) (by simp) ?_)
      intro g cap w1 hown' hgrow hat hlt1
      have hb1 := (hbl.alloc (o := .cells #[.int .i64 (s % q)] 3) hsz).grown hgrow (by simp; omega) (fun g hg => (hown.lt g hg).1)
      have hout1 : OwnI w1 (w.heap.size + 1) (.slice (some ⟨w.heap.size + 2, 0, none⟩) 0 0) 0 [] := by
        refine (hout.alloc _).keep fun k hk => hgrow.block k ?_ ?_
        · cases hk; simp; omega
        · cases hk; exact fun h => HDO.out h.symm
      have hdo1 : (Value.slice (some ⟨g, 0, none⟩) (k + 1) cap).ownBlock ≠ some (w.heap.size + 2) := by
        intro h
        simp only [Value.ownBlock, Option.some.injEq] at h
        rcases hat with h' | h'
        · exact HDO.out (h'.trans (by rw [h]))
        · omega
      clear hown hout hbl hgrow hat c0 c1 c2
      have c0 : w1.cell? ⟨w.heap.size, 0, none⟩ = some (.int .i64 q) := (hb1.cell (by simp)).trans (by simp [go_sem])
      have HDO1 := Lib.hid hdo1
      clear hdo1
      go_wp2
      go_roundw
      case rel => exact ⟨k + 1, by omega, by go_num, by rw [HV.out], by rw [HD.out]; exact hown', hout1, HDO1.out, hb1⟩
      case measure => simp [intOf]; omega
    · obtain rfl : k = t := by omega
      obtain ⟨A, c, hv, hc1, hc2, hc3, hA⟩ := hown.sli
      have hdl := digs_length q item k
      subst hv
      have hde := digs_elem (q := q) (item := item) (by omega) k
      have hAb : ∀ b, A = some b → b.block ∉ [w.heap.size + 2] := by
        rintro b rfl hb
        simp at hb
        exact HDO.out (by simp [Value.ownBlock, hb])
      generalize hD : digs q item k = D at *
      have HDD := Lib.hid hD
      clear hD
      subst hdl
      clear hown hlo hhi HV HD HDO
      go_wp2
      have hsz2 : w.heap.size < wr.heap.size := by omega
      have hqB : wr.cell? ⟨w.heap.size, 0, none⟩ = some (.int .i64 q) := c0
      have hnB : wr.cell? ⟨w.heap.size, 2, none⟩ = some (.int .i64 n) := c2
      have hbl2 := hbl
      clear c0 c1 c2 hbl
      obtain ⟨wo, rfl⟩ : ∃ wo, wo = wr := ⟨_, rfl⟩
      go_loopw [6, 8] (fun v i wr => ∃ k : Nat, k ≤ n ∧ i = .int .i64 k ∧ OwnI wr (w.heap.size + 1) v k (membersD q D k) ∧
        (∀ g, v.ownBlock = some g → g = w.heap.size + 2 ∨ wo.heap.size ≤ g) ∧ Fr [w.heap.size + 2] wo wr) (fun _ i _ => n - (intOf i).toNat)
      case atStart => exact ⟨0, by omega, rfl, hout, by intro g hg; cases hg; exact .inl rfl, Fr.refl _ _⟩
      case round =>
        clear hout
        obtain ⟨k, hk, rfl, hown, hob, hfr⟩ := hrel
        have hAr := At.fr hA hfr hAb
        have hAr : Ints wr A D := hAr
        have c0 : wr.cell? ⟨w.heap.size, 0, none⟩ = some (.int .i64 q) := (World.cell?_of_block (hfr.block w.heap.size hsz2 (by simp))).trans hqB
        have c2 : wr.cell? ⟨w.heap.size, 2, none⟩ = some (.int .i64 n) := (World.cell?_of_block (hfr.block w.heap.size hsz2 (by simp))).trans hnB
        have hsz := hfr.size
        have hms := membersD_succ q D k
        have HM := Lib.hid hms
        have HOB := Lib.hid hob
        have HAB := Lib.hid hAb
        have hv0 := hv_bd (q := q) (x := (k : Int)) (by omega) D
        obtain ⟨hv1, hv2⟩ := hv0
        have hkq1 : 0 ≤ (k : Int) * q := Int.mul_nonneg (by omega) (by omega)
        have hkq2 : (k : Int) * q ≤ 31 * 31 := Int.mul_le_mul (by omega) hq2 (by omega) (by omega)
        clear hms hA hqB hnB hob hAb
        have HB2 := Lib.hid hbl2
        have HFR := Lib.hid hfr
        clear hbl2 hfr
        by_cases hlt : k < n
        · have lw : w.heap.size < wr.heap.size := by omega
          have e1 : IntKind.i64.wrap ((k : Int) * q) = (k : Int) * q := IntWalk.i64_in _ (by omega)
          have e2 : IntKind.i64.wrap ((k : Int) * q + hv q k D) = (k : Int) * q + hv q k D := IntWalk.i64_in _ (by omega)
          have c34 : ∀ W, Ints W A D → Calls Try.prog 34 #[.int .i64 q, .slice A D.length c, .int .i64 k] W fun e w' => e = .returned (.int .i64 (hv q k D)) ∧ W = w' := fun W h => (refValue_any q k A c D.length D W ⟨hq1, hq2⟩ ⟨by omega, by omega⟩ hde h rfl (by omega)).mono fun e w' h => ⟨h.1, h.2.symm⟩
          generalize hv q k D = z at *
          go_wp2
          go_region_held3 (fun w' => w'.cell? ⟨w.heap.size, 0, none⟩ = some (.int .i64 q)) (first | go_keep | (rw [hgrow.cell_far _ (by simp; omega) (by intro h; have := HOB.out _ h.symm; simp at this; omega)]; assumption))
            (first | (go_at_call 34; refine (c34 _ ?_).mono ?_; (first | exact hAr | exact hAr.drewN _ | exact hAr.drew); rintro e w' ⟨rfl, rfl⟩) | (refine step_int _ (by rfl) _ _ (by rfl) (w.heap.size + 1) _ k (membersD q D k) (by rfl) ((hown.alloc _).drewN _) wr.heap.size ((k : Int) * q + z) (by rfl) (heap_alloc_new wr _) (by omega) (by simp; omega) (wr.heap.size + 1) (by simp) ?_; intro gg cap w1 hown1 hgrow hat hlt1))
          have hfr1 := ((HFR.out.alloc (.cells #[.int .i64 ((k : Int) * q + z)] 3)).drew).grown hgrow (fun g hg => by rcases HOB.out g hg with h | h; exact .inl (by simp [h]); exact .inr h)
          have hob1 : ∀ g, (Value.slice (some ⟨gg, 0, none⟩) (k + 1) cap).ownBlock = some g → g = w.heap.size + 2 ∨ wo.heap.size ≤ g := by
            intro g hg
            simp only [Value.ownBlock, Option.some.injEq] at hg
            subst hg
            rcases hat with h | h
            · exact HOB.out _ h
            · right; omega
          have HOB1 := Lib.hid hob1
          have HF1 := Lib.hid hfr1
          clear hgrow hown hat HOB hfr1 hob1
          go_wp2
          go_roundw
          case rel => exact ⟨k + 1, by omega, by go_num, by rw [HM.out]; exact hown1, HOB1.out, HF1.out⟩
          case measure => simp [intOf]; omega
        · obtain rfl : k = n := by omega
          have hsl := hown.mono (B := w.heap.size) (by omega)
          have hbf := (HB2.out.trans (HFR.out.belowOf (B := w.heap.size + 1) (by omega) (by simp))).mono (B' := w.heap.size) (by omega)
          go_wp2
          go_ret
          exact ⟨_, rfl, by unfold membersM; rw [HDD.out, membersD_length]; exact hsl, ((Below.refl w.heap.size w).alloc (Nat.le_refl _) _).trans hbf⟩
end Go.Proofs.Ytneliejncfncdaa

namespace Go.Proofs.Ytneliejncfncdaa
open Go.RowKit

/-- The box of the pools lies at B, in W. -/
structure Box (w : World) (q t n : Int) (W : World) : Prop where
  k0 : W.cell? ⟨w.heap.size, 0, none⟩ = some (.int .i64 q)
  k1 : W.cell? ⟨w.heap.size, 1, none⟩ = some (.int .i64 t)
  k2 : W.cell? ⟨w.heap.size, 2, none⟩ = some (.int .i64 n)
  lt : w.heap.size < W.heap.size
  below : Below w.heap.size w W
theorem Box.new (w : World) (q t n : Int) : Box w q t n (w.alloc (.cells #[.int .i64 q, .int .i64 t, .int .i64 n] 35)) :=
  ⟨by simp [go_sem], by simp [go_sem], by simp [go_sem], by simp, (Below.refl _ _).alloc (Nat.le_refl _) _⟩
theorem Box.step {w : World} {q t n : Int} {W W' : World} (h : Box w q t n W) (hb : Below W.heap.size W W') : Box w q t n W' :=
  ⟨(hb.cell h.lt).trans h.k0, (hb.cell h.lt).trans h.k1, (hb.cell h.lt).trans h.k2, Nat.lt_of_lt_of_le h.lt hb.size, h.below.trans (hb.mono (Nat.le_of_lt h.lt))⟩
theorem Box.drewN {w : World} {q t n : Int} {W : World} (h : Box w q t n W) (z : Nat) : Box w q t n (W.drewN z) := ⟨h.k0, h.k1, h.k2, h.lt, h.below.drewN z⟩
theorem SlI.lieA {w : World} {v : Value} {xs : List Int} (h : SlI w v xs) {n : Nat} (hn : xs.length = n) : ∃ A c, v = .slice A n c ∧ Ints w A xs := by
  subst hn
  obtain ⟨A, c, hv, _, _, _, h4⟩ := h
  exact ⟨A, c, hv, h4⟩
theorem Bools.drewN {w : World} {A : Option Addr} {xs : List Bool} (h : Bools w A xs) (n : Nat) : Bools (w.drewN n) A xs := h

theorem setAll_take_succ (b : List Bool) (xs : List Int) (k : Nat) (hk : k < xs.length) : setAll b (xs.take (k + 1)) = (setAll b (xs.take k)).set xs[k].toNat true := by
  rw [List.take_add_one, List.getElem?_eq_getElem hk]
  exact setAll_snoc _ _ _
theorem wetM_take_succ (q : Int) (t n : Nat) (l : List Int) (k : Nat) (hk : k < l.length) : wetM q t n (l.take (k + 1)) = setAll (wetM q t n (l.take k)) (membersM q l[k] t n) := by
  rw [List.take_add_one, List.getElem?_eq_getElem hk]
  exact wetM_snoc _ _ _ _ _

theorem OwnB.form {w : World} {base n : Nat} {v : Value} {xs : List Bool} (h : OwnB w base v n xs) (hn : 0 < n) : ∃ g cap, v = .slice (some ⟨g, 0, none⟩) n cap ∧ base ≤ g ∧ g < w.heap.size := World.ownsRow.form h hn
theorem OwnB.cell {w : World} {base n g cap : Nat} {xs : List Bool} (h : OwnB w base (.slice (some ⟨g, 0, none⟩) n cap) n xs) {k : Nat} (hk : k < n) : ∃ y, w.cell? ⟨g, k, none⟩ = some (.bool y) := by
  have hl := h.len
  exact ⟨_, h.get (k := k) (by omega)⟩
theorem OwnB.mono {w : World} {base n : Nat} {v : Value} {xs : List Bool} (h : OwnB w base v n xs) {B : Nat} (hB : B ≤ base) : OwnB w B v n xs := by
  refine ⟨h.1, ?_⟩
  rcases h.2 with h' | ⟨g, cap, cur, h1, h2, h3⟩
  · exact .inl h'
  · exact .inr ⟨g, cap, cur, h1, by omega, h3⟩
theorem OwnB.bools {w : World} {base n cap : Nat} {A : Option Addr} {xs : List Bool} (h : OwnB w base (.slice A n cap) n xs) : Bools w A xs := by
  have hl := h.len
  subst hl
  have h2 : w.ownsRow base 4 1 (.slice A xs.length cap) (xs.map Value.bool).length (xs.map Value.bool) := by simpa using h.out
  obtain ⟨A', c', hv, _, _, _, hA⟩ := sl_of_own h2
  rw [List.length_map] at hv
  cases hv
  exact hA

theorem RetOwn.lie {xs : List Int} {w w' : World} {e : Ending} (h : RetOwn xs w e w') {n : Nat} (hn : xs.length = n) :
    ∃ A c, e = .returned (.slice A n c) ∧ Ints w' A xs ∧ (∀ a, A = some a → w.heap.size ≤ a.block) ∧ Below w.heap.size w w' := by
  obtain ⟨v, he, ho, hb⟩ := h
  rw [hn] at ho
  have hl := ho.lt
  obtain ⟨A, c, hv, _, _, _, hA⟩ := ho.sli
  subst hn
  exact ⟨A, c, by rw [he, hv], hA, fun a ha => (hl a.block (by rw [hv, ha]; rfl)).1, hb⟩

set_option maxRecDepth 100000 in
set_option maxHeartbeats 1600000 in
theorem Wet_good (q I : Int) (t n m N : Nat) (A : Option Addr) (c : Nat) (l : List Int) (w : World) (hq : 2 ≤ q ∧ q ≤ 31) (ht : t ≤ 31) (hn : 1 ≤ n ∧ n ≤ 31) (hN : n * q.toNat = N)
    (hI : itemsM q t n = I) (hI1 : 0 < I ∧ I ≤ 1000) (hA : Ints w A l) (hm : l.length = m) (hb : m ≤ 1000000) (hr : rsB I (-1) l = true) :
    Calls Try.prog 42 #[pools q t n, .slice A m c] w fun e w' => ∃ g : Nat, e = .returned (.tuple #[.slice (some ⟨g, 0, none⟩) N N, .int .i64 0]) ∧ OwnB w' (w.heap.size + 1) (.slice (some ⟨g, 0, none⟩) N N) N (wetM q t n l) ∧ Below w.heap.size w w' := by
  obtain ⟨hq1, hq2⟩ := hq
  obtain ⟨hn1, hn2⟩ := hn
  obtain ⟨hI2, hI3⟩ := hI1
  have hb0 : Below (w.heap.size + 1) (w.alloc (.cells #[.int .i64 q, .int .i64 t, .int .i64 n] 35)) (w.alloc (.cells #[.int .i64 q, .int .i64 t, .int .i64 n] 35)) := Below.refl _ _
  have hb00 : Below w.heap.size w (w.alloc (.cells #[.int .i64 q, .int .i64 t, .int .i64 n] 35)) := (Below.refl _ _).alloc (Nat.le_refl _) _
  have c64 : ∀ W, Calls Try.prog 64 #[pools q t n] W fun e w' => e = .returned (.int .i64 I) ∧ Below W.heap.size W w' := fun W => by rw [← hI]; exact items_any q t n W
  have c73 : ∀ W, Ints W A l → Calls Try.prog 73 #[.slice A m c, .int .i64 I] W fun e w' => e = .returned (.bool true) ∧ W = w' := fun W hI => by
    have := (rising_any A c m l I W hI hm hb).mono fun e w' h => (⟨h.1, h.2.symm⟩ : e = .returned (.bool (rsB I (-1) l)) ∧ W = w')
    rwa [hr] at this
  have hbI : (I == 0) = false := by simp; omega
  have hNI : ((N : Nat) : Int) = n * q := by rw [← hN, Int.natCast_mul, show ((q.toNat : Nat) : Int) = q by omega]
  have hnq1 : 0 ≤ (n : Int) * q := Int.mul_nonneg (by omega) (by omega)
  have hnq2 : (n : Int) * q ≤ 31 * 31 := Int.mul_le_mul (by omega) hq2 (by omega) (by omega)
  have hnq3 : 0 < (n : Int) * q := Int.mul_pos (by omega) (by omega)
  have hbd := rsB_bd l (-1) hr
  have HNI := Lib.hid hNI
  have HBD := Lib.hid hbd
  have HM := Lib.hid hm
  have HN := Lib.hid hN
  clear hI hr hNI hbd hm hN
  go_enter Try.func42, Try.ntmps42
  go_wp2_with (first | (go_at_call 64; refine (c64 _).mono ?_; rintro e w1 ⟨rfl, hb1⟩; have hbs := hb0.trans (hb1.mono (by simp)); have hI1 := hA.below (hb00.trans (hb1.mono (by simp))); have hs1 := hb1.size; simp at hs1; have k0 := hbs.cell (p := ⟨w.heap.size, 0, none⟩) (by simp); have k1 := hbs.cell (p := ⟨w.heap.size, 1, none⟩) (by simp); have k2 := hbs.cell (p := ⟨w.heap.size, 2, none⟩) (by simp); simp [go_sem] at k0 k1 k2) | (go_at_call 73; refine (c73 _ hI1).mono ?_; rintro e w' ⟨rfl, rfl⟩) | (at_make; refine wpList_makeBools _ rfl _ _ rfl w1.heap.size _ _ N rfl rfl HNI.out.symm HNI.out.symm (by have := HNI.out; omega) (Nat.le_refl _) ?_))
  intro w2 hown hgr
  have hb2 : Below (w.heap.size + 1) (w.alloc (.cells #[.int .i64 q, .int .i64 t, .int .i64 n] 35)) w2 := hbs.grown hgr (by omega) (by intro k hk; cases hk)
  have hown : OwnB w2 (w.heap.size + 1) (.slice (some ⟨w1.heap.size, 0, none⟩) N N) N (wetM q t n (l.take 0)) := by
    have := hown.mono (B := w.heap.size + 1) (by omega)
    simpa [wetM, HN.out] using this
  have HB0 := Lib.hid hb00
  clear hgr hbs hI1 hb1 c64 c73 hb0 k0 k1 k2 hb00
  generalize w1.heap.size = g at *
  have hg1 : w.heap.size + 1 ≤ g := (hown.lt g rfl).1
  clear hs1
  go_wp2
  go_loopw [30] (fun i wr => ∃ k : Nat, k ≤ m ∧ i = .int .i64 k ∧ OwnB wr (w.heap.size + 1) (.slice (some ⟨g, 0, none⟩) N N) N (wetM q t n (l.take k)) ∧ Below (w.heap.size + 1) (w.alloc (.cells #[.int .i64 q, .int .i64 t, .int .i64 n] 35)) wr) (fun i _ => m - (intOf i).toNat)
  case atStart => exact ⟨0, by omega, rfl, hown, hb2⟩
  case round =>
    clear hown hb2
    obtain ⟨k, hk, rfl, hown, hbl⟩ := hrel
    have k0 := hbl.cell (p := ⟨w.heap.size, 0, none⟩) (by simp)
    have k1 := hbl.cell (p := ⟨w.heap.size, 1, none⟩) (by simp)
    have k2 := hbl.cell (p := ⟨w.heap.size, 2, none⟩) (by simp)
    simp [go_sem] at k0 k1 k2
    have hsz := hbl.size
    simp at hsz
    by_cases hlt : k < m
    · obtain ⟨b, off, rfl, hbA, hc⟩ := (hA.below (HB0.out.trans (hbl.mono (by omega)))).get (k := k) (by rw [HM.out]; exact hlt)
      have hit := HBD.out k (by rw [HM.out]; exact hlt)
      have hwt := wetM_take_succ q t n l k (by rw [HM.out]; exact hlt)
      generalize l[k]'(by rw [HM.out]; exact hlt) = item at *
      obtain ⟨hit1, hit2⟩ := hit
      have cm : ∀ W, Calls Try.prog 65 #[pools q t n, .int .i64 item] W (RetOwn (membersM q item t n) W) := fun W => members_own q item t n W ⟨hq1, hq2⟩ ht hn2 ⟨by omega, by omega⟩
      have hmb := fun (j : Nat) (hj : j < (membersM q item t n).length) => members_bd (q := q) (item := item) hq1 t n hj
      have hml := membersM_length q item t n
      have HWT := Lib.hid hwt
      have HMB := Lib.hid hmb
      have HML := Lib.hid hml
      clear hwt hmb hml
      generalize membersM q item t n = xs at *
      go_wp2_with (go_at_call 65; refine (cm _).mono ?_; intro e w3 hs; obtain ⟨A3, c3, rfl, hX, hX0, hb3⟩ := hs.lie HML.out)
      have hown3 : OwnB w3 (w.heap.size + 1) (.slice (some ⟨g, 0, none⟩) N N) N (setAll (wetM q t n (l.take k)) (xs.take 0)) := by
        have := hown.below hb3
        simpa [setAll] using this
      have hbl3 := hbl.trans (hb3.mono (by omega))
      have hgl := (hown.lt g rfl).2
      have hX1 : ∀ a, A3 = some a → a.block ∉ [g] := by
        intro a ha hm
        have := hX0 a ha
        simp at hm
        omega
      have HX1 := Lib.hid hX1
      clear hX1 hX0 hown hbl hb3 k0 k1 k2 cm
      obtain ⟨wo, rfl⟩ : ∃ wo, wo = w3 := ⟨_, rfl⟩
      go_loopw [38] (fun i wr => ∃ j : Nat, j ≤ n ∧ i = .int .i64 j ∧ OwnB wr (w.heap.size + 1) (.slice (some ⟨g, 0, none⟩) N N) N (setAll (wetM q t n (l.take k)) (xs.take j)) ∧ Fr [g] wo wr ∧ Below (w.heap.size + 1) (w.alloc (.cells #[.int .i64 q, .int .i64 t, .int .i64 n] 35)) wr) (fun i _ => n - (intOf i).toNat)
      case atStart => exact ⟨0, by omega, rfl, hown3, Fr.refl _ _, hbl3⟩
      case round =>
        clear hown3 hbl3
        obtain ⟨j, hj, rfl, hown, hfr, hbl⟩ := hrel
        by_cases hlj : j < n
        · obtain ⟨b3, o3, rfl, hb3, hc3⟩ := Ints.get (At.fr hX hfr HX1.out) (k := j) (by rw [HML.out]; exact hlj)
          have hpb := HMB.out j (by rw [HML.out]; exact hlj)
          have hts := setAll_take_succ (wetM q t n (l.take k)) xs j (by rw [HML.out]; exact hlj)
          generalize xs[j]'(by rw [HML.out]; exact hlj) = p at *
          obtain ⟨hp1, hp2⟩ := hpb
          have hp3 : p < ((N : Nat) : Int) := by rw [HNI.out]; exact hp2
          have hp4 : p.toNat < N := by omega
          obtain ⟨pn, rfl⟩ : ∃ pn : Nat, p = pn := ⟨p.toNat, by omega⟩
          rw [Int.toNat_natCast] at hts hp4
          obtain ⟨y, hy⟩ := hown.cell hp4
          have hfz := hown.frozen pn
          have HTS := Lib.hid hts
          clear hts hp2
          go_wp2
          go_roundw
          case rel => exact ⟨j + 1, by omega, by go_num, by rw [HTS.out]; exact hown.set pn true, hfr.set _ (.inl (by simp)) _, hbl.setCell (by simp; omega) _⟩
          case measure => simp [intOf]; omega
        · obtain rfl : j = n := by omega
          have hfin : setAll (wetM q t j (l.take k)) (xs.take j) = wetM q t j (l.take (k + 1)) := by
            rw [HWT.out, List.take_of_length_le (l := xs) (by rw [HML.out]; omega)]
          rw [hfin] at hown
          clear hfin
          go_wp2
          go_roundw
          case rel => exact ⟨k + 1, by omega, by go_num, hown, hbl⟩
          case measure => simp [intOf]; omega
    · obtain rfl : k = m := by omega
      rw [List.take_of_length_le (by rw [HM.out]; omega)] at hown
      have hbf := HB0.out.trans (hbl.mono (by omega))
      clear k0 k1 k2
      go_wp2
      go_ret2
      exact ⟨g, rfl, hown, hbf⟩
end Go.Proofs.Ytneliejncfncdaa
