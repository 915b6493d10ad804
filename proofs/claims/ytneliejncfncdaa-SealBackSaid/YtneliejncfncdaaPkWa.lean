/- Texts Wa Wb in one. -/
import Derived.Test.YtneliejncfncdaaPkTd
import Derived.Test.YtneliejncfncdaaPkFa
import Derived.Test.YtneliejncfncdaaPkTa
import Derived.Test.YtneliejncfncdaaPkQ
import Derived.Test.YtneliejncfncdaaPkIa
namespace Go.Proofs.Ytneliejncfncdaa

theorem cover_len : ∀ (q : Nat) (X : List Int), (∀ v : Int, 0 ≤ v → v < q → v ∈ X) → q ≤ X.length
  | 0, _, _ => Nat.zero_le _
  | q + 1, X, h => by
    have hq : (q : Int) ∈ X := h q (by omega) (by omega)
    have ih := cover_len q (X.erase q) fun v h1 h2 => (List.mem_erase_of_ne (by omega)).2 (h v h1 (by omega))
    have hl := List.length_erase_of_mem hq
    have hp : 0 < X.length := List.length_pos_of_mem hq
    omega
/-- The places that are taken, behind i rounds over l of which m were given. -/
structure Places (q : Int) (n m i : Nat) (X : List Int) : Prop where
  nodup : X.Nodup
  elem : elemB q X = true
  len : X.length ≤ n
  all : ∀ v : Int, 0 ≤ v → v < (i : Int) - m → v ∈ X
theorem Places.zero (q : Int) (n m : Nat) : Places q n m 0 [] := ⟨by simp, by simp [elemB], Nat.zero_le _, fun v h1 h2 => by omega⟩
theorem Places.lt {q : Int} {n m i : Nat} {X : List Int} (h : Places q n m i X) (hn : (n : Int) ≤ q) (hx : X.length < n) : (i : Int) - m < q := by
  rcases Int.lt_or_le ((i : Int) - m) q with hl | hl
  · exact hl
  · have := cover_len q.toNat X fun v h1 h2 => h.all v h1 (by omega)
    omega
theorem Places.old {q : Int} {n m i : Nat} {X : List Int} (h : Places q n m i X) {v : Int} (hv : v ∈ X) (hm : m ≤ i → v = (i : Int) - m) : Places q n m (i + 1) X :=
  ⟨h.nodup, h.elem, h.len, fun u h1 h2 => by
    by_cases e : u < (i : Int) - m
    · exact h.all u h1 e
    · rw [show u = v by rw [hm (by omega)]; omega]; exact hv⟩
theorem Places.new {q : Int} {n m i : Nat} {X : List Int} (h : Places q n m i X) (hx : X.length < n) {v : Int} (hv : v ∉ X) (hb : 0 ≤ v ∧ v < q) (hm : m ≤ i → v = (i : Int) - m) : Places q n m (i + 1) (X ++ [v]) :=
  ⟨by rw [List.nodup_append]; exact ⟨h.nodup, by simp, fun a ha b hb => by simp at hb; subst hb; exact fun e => hv (e ▸ ha)⟩,
   elemB_append h.elem (by simp [elemB]; exact hb), by simp; omega, fun u h1 h2 => by
    by_cases e : u < (i : Int) - m
    · exact List.mem_append_left _ (h.all u h1 e)
    · rw [show u = v by rw [hm (by omega)]; omega]; simp⟩

def valsAt (q : Int) (a X : List Int) : List Int := X.map fun x => hv q x a
theorem valsAt_elem {q : Int} (hq : 1 ≤ q) (a X : List Int) : elemB q (valsAt q a X) = true := by
  refine elemB_of _ _ fun j hj => ?_
  simp only [valsAt, List.getElem_map]
  exact hv_bd hq _
theorem back_eq {q : Int} (hq : primeB q = true) {a X : List Int} {n : Nat} (ha : elemB q a = true) (hal : a.length = n) (hX : elemB q X = true) (hXl : X.length = n) (hnd : X.Nodup) : thP q X (valsAt q a X) n = a := by
  have hb := prime_bd hq
  obtain ⟨h1, h2, h3⟩ := through_facts (ys := valsAt q a X) hq hX (valsAt_elem (by omega) a X) hXl hnd
  refine PM.eq_of_values (primeB_pr hq) X _ _ (by omega) (by omega) (nodup_pair hX hnd) (elemB_mem h2) (elemB_mem ha) fun x hm => ?_
  obtain ⟨i, hi, rfl⟩ := List.mem_iff_getElem.1 hm
  rw [← pe_ev, ← pe_ev]
  obtain ⟨z, hz⟩ := h3 i (by omega)
  have e1 : X.getD i 0 = X[i] := by simp [List.getD, hi]
  have e2 : (valsAt q a X).getD i 0 = hv q X[i] a := by simp [valsAt, List.getD, hi]
  rw [e1, e2] at hz
  obtain ⟨y, hy⟩ := hv_near q X[i] a
  exact ⟨z + y, by grind⟩
theorem throughR_back {q : Int} (hq : primeB q = true) {a X : List Int} {n : Nat} (ha : elemB q a = true) (hal : a.length = n) (hX : elemB q X = true) (hXl : X.length = n) (hnd : X.Nodup) (hn : 1 ≤ n) (hnq : (n : Int) ≤ q) : throughR q X (valsAt q a X) = (a, 0) := by
  have hb := prime_bd hq
  have hl : (valsAt q a X).length = n := by simp [valsAt, hXl]
  have := back_eq hq ha hal hX hXl hnd
  unfold throughR
  rw [hq, hX, valsAt_elem (by omega) a X, decide_eq_true (show X.length = (valsAt q a X).length by omega), decide_eq_true (show 1 ≤ X.length by omega), decide_eq_true (show (X.length : Int) ≤ q by omega), decide_eq_true hnd, hXl, this]
  rfl
theorem valsAt_snoc (q : Int) (a X : List Int) (x : Int) : valsAt q a (X ++ [x]) = valsAt q a X ++ [hv q x a] := by simp [valsAt]
theorem valueR_el {q : Int} {a : List Int} {x : Int} (hq : primeB q = true) (ha : elemB q a = true) (hx : 0 ≤ x ∧ x < q) (hl : (a.length : Int) ≤ q) : valueR q a x = (hv q x a, 0) := by
  have e : elemB q [x] = true := by simp [elemB]; exact hx
  unfold valueR
  rw [hq, ha, e, decide_eq_true hl]
  rfl
end Go.Proofs.Ytneliejncfncdaa

namespace Go.Proofs.Ytneliejncfncdaa
open Go.RowKit

theorem ownI_litAt (w : World) (base g : Nat) (hb : base ≤ w.heap.size) (hg : w.heap.size = g) : OwnI (w.alloc (.cells #[] 3)) base (.slice (some ⟨g, 0, none⟩) 0 0) 0 [] := by
  subst hg; exact ownI_lit w base hb
theorem OwnI.lieW {w : World} {base n : Nat} {v : Value} {xs : List Int} (h : OwnI w base v n xs) : ∃ A c, v = .slice A n c ∧ Ints w A xs := by
  have hl := h.len
  subst hl
  obtain ⟨A, c, hv, _, _, _, hA⟩ := h.sli
  exact ⟨A, c, hv, hA⟩
theorem OwnI.lieS {w : World} {base n : Nat} {v : Value} {xs : List Int} (h : OwnI w base v n xs) : ∃ A c, v = .slice A n c ∧ Ints w A xs ∧ ∀ x, A = some x → v.ownBlock = some x.block ∧ base ≤ x.block ∧ x.block < w.heap.size := by
  have hl := h.len
  obtain ⟨A, c, hv, _, _, _, hA⟩ := h.sli
  subst hl
  refine ⟨A, c, hv, hA, fun x hx => ?_⟩
  have hb : v.ownBlock = some x.block := by rw [hv, hx]; rfl
  exact ⟨hb, h.lt _ hb⟩

set_option maxRecDepth 100000 in
set_option maxHeartbeats 1600000 in
theorem back_none (n q : Int) (A : Option Addr) (c m : Nat) (p : List Int) (C : Option Addr) (d l : Nat) (w : World) (qn : Nat) (hqn : q = qn)
    (c35 : Calls Try.prog 35 #[.int .i64 n] w fun e w' => e = .returned (.int .i64 q) ∧ Below w.heap.size w w') (c36 : ∀ W, Ints W A p → Calls Try.prog 36 #[.int .i64 q, .slice A m c, .int .i64 q] W (RetInts [] W)) (hA : Ints w A p) :
    Calls Try.prog 11 #[.int .i64 n, .slice A m c, .slice C l d] w (Said true w) := by
  subst hqn
  go_enter Try.func11, Try.ntmps11
  go_wp2_with fail
  refine c35.mono ?_
  rintro e w1 ⟨rfl, hb1⟩
  have hA1 := hA.below hb1
  clear c35 hA
  go_wp2_with fail
  refine (c36 _ hA1).mono ?_
  rintro e w2 ⟨v2, rfl, hs2, hb2⟩
  obtain ⟨A2, c2, rfl, hI⟩ := hs2.lieA (n := 0) rfl
  have hb12 := hb1.trans (hb2.mono hb1.size)
  clear c36 hb1 hb2 hs2 hA1
  go_wp2_with fail
  refine (lives_any _).mono ?_
  rintro e w4 ⟨rfl, hb4⟩
  have hbf := hb12.trans (hb4.mono hb12.size)
  go_wp2
  go_ret
  exact ⟨rfl, hbf⟩

set_option maxRecDepth 100000 in
set_option maxHeartbeats 3200000 in
theorem back_some (n q : Int) (A : Option Addr) (c m : Nat) (p : List Int) (C : Option Addr) (d l : Nat) (r a : List Int) (w : World) (qn N : Nat) (hqn : q = qn) (hq : primeB q = true)
    (c35 : Calls Try.prog 35 #[.int .i64 n] w fun e w' => e = .returned (.int .i64 q) ∧ Below w.heap.size w w') (c36 : ∀ W, Ints W A p → Calls Try.prog 36 #[.int .i64 q, .slice A m c, .int .i64 q] W (RetInts a W)) (hA : Ints w A p)
    (hC : Ints w C r) (hr : r.length = l) (hl : l ≤ 100000000000000) (hbd : ∀ x ∈ r, I64 x) (ha : elemB q a = true) (haN : a.length = N) (hN1 : 1 ≤ N) (hNq : (N : Int) ≤ q) :
    Calls Try.prog 11 #[.int .i64 n, .slice A m c, .slice C l d] w (Said true w) := by
  subst hqn
  have hpb := prime_bd hq
  obtain ⟨hq1, hq2⟩ := hpb
  have HA := Lib.hid haN
  have HR := Lib.hid hr
  have HBD := Lib.hid hbd
  clear haN hr hbd
  go_enter Try.func11, Try.ntmps11
  go_wp2_with fail
  refine c35.mono ?_
  rintro e w1 ⟨rfl, hb1⟩
  have hA1 := hA.below hb1
  have hC1 := hC.below hb1
  clear c35 hA hC
  go_wp2_with fail
  refine (c36 _ hA1).mono ?_
  rintro e w2 ⟨v2, rfl, hs2, hb2⟩
  obtain ⟨A2, c2, rfl, hI⟩ := hs2.lieA HA.out
  have hC2 := hC1.below hb2
  have hb12 := hb1.trans (hb2.mono hb1.size)
  clear c36 hb1 hb2 hs2 hA1 hC1
  have hx0 := (ownI_litAt w2 w2.heap.size w2.heap.size (Nat.le_refl _) rfl).alloc (.cells #[] 3)
  have hy0 := ownI_litAt (w2.alloc (.cells #[] 3)) w2.heap.size (w2.heap.size + 1) (by simp) (by simp)
  have hbw := ((Below.refl w2.heap.size w2).alloc (Nat.le_refl _) (.cells #[] 3)).alloc (by simp) (.cells #[] 3)
  have e0 : ¬ N = 0 := by omega
  have e0b : ¬ (N : Int) = 0 := by omega
  have e0c : ((N : Int) == 0) = false := by simp; omega
  have e0d : (N == 0) = false := by simp; omega
  obtain ⟨B, hB⟩ : ∃ B, w2.heap.size = B := ⟨_, rfl⟩
  rw [hB] at hx0 hy0 hbw
  have HB := Lib.hid hB
  go_wp2
  have hBs : B ≤ w2.heap.size := Nat.le_of_eq hB.symm
  clear hB
  generalize hW0 : (w2.alloc (.cells #[] 3)).alloc (.cells #[] 3) = W0 at *
  clear hW0
  go_loopw [9, 11] (fun v i wr => ∃ (k : Nat) (X : List Int), i = .int .i64 k ∧ k ≤ l + qn ∧ Places qn N l k X ∧ OwnI wr B v X.length X ∧ OwnI wr B (.slice (some ⟨B + 1, 0, none⟩) 0 0) 0 [] ∧ v.ownBlock ≠ some (B + 1) ∧ Below B w2 wr) (fun _ i _ => l + qn - (intOf i).toNat)
  case atStart => exact ⟨0, [], rfl, by omega, Places.zero _ _ _, hx0, hy0, by simp [Value.ownBlock], hbw⟩
  case round =>
    clear hx0 hy0 hbw
    obtain ⟨k, X, rfl, hk, hP, ho, hoy, hne, hbl⟩ := hrel
    by_cases hlen : X.length < N
    · have hlt := hP.lt hNq hlen
      have hsz : B ≤ wr.heap.size := by have := hbl.size; omega
      have hys := (hoy.lt (B + 1) rfl).2
      obtain ⟨A9, c9, rfl, hXI, hXb⟩ := ho.lieS
      have hb0 : Below w2.heap.size w2 wr := by rw [HB.out]; exact hbl
      have hCr := hC2.below hb0
      obtain ⟨K, hK⟩ : ∃ K, X.length = K := ⟨_, rfl⟩
      rw [hK] at ho hlen hne ⊢
      have HK := Lib.hid hK
      have HNE := Lib.hid hne
      have c29 : ∀ (v : Int) W, Ints W A9 X → Calls Try.prog 29 #[.slice A9 K c9, .int .i64 v] W fun e w' => e = .returned (.bool (decide (v ∈ X))) ∧ W = w' := fun v W h => (has_any A9 c9 K X v W h HK.out (by omega)).mono fun e w' h => ⟨h.1, h.2.symm⟩
      clear hne hK hb0 hXb
      by_cases hkl : k < l
      · obtain ⟨gc, oc, rfl, hgc, hcc⟩ := hCr.get (k := k) (by rw [HR.out]; exact hkl)
        have hrb := HBD.out _ (List.getElem_mem (l := r) (n := k) (by rw [HR.out]; exact hkl))
        generalize r[k]'(by rw [HR.out]; exact hkl) = x at *
        have c26 : ∀ W, Calls Try.prog 26 #[.int .i64 x, .int .i64 qn] W fun e w' => e = .returned (.int .i64 (x % qn)) ∧ W = w' := fun W => (fold_any x qn W hrb ⟨by omega, by omega⟩).mono fun e w' h => ⟨h.1, h.2.symm⟩
        have hv1 : 0 ≤ x % (qn : Int) := Int.emod_nonneg _ (by omega)
        have hv2 : x % (qn : Int) < qn := Int.emod_lt_of_pos _ (by omega)
        have hu1 := hP.old (v := x % (qn : Int))
        have hu2 := hP.new (v := x % (qn : Int)) (by rw [HK.out]; exact hlen)
        generalize x % (qn : Int) = v at *
        have cv := c29 v
        by_cases hvX : v ∈ X
        · rw [decide_eq_true hvX] at cv
          have HP := Lib.hid (hu1 hvX (by omega))
          clear hu1 hu2 hvX c29 hP
          go_wp2_with fail
          refine (c26 _).mono ?_
          rintro e w' ⟨rfl, rfl⟩
          go_wp2_with fail
          refine (cv _ hXI).mono ?_
          rintro e w' ⟨rfl, rfl⟩
          go_wp2_with fail
          go_roundw
          case rel => exact ⟨k + 1, X, by go_num, by omega, HP.out, by rw [HK.out]; exact ho, hoy, HNE.out, hbl⟩
          case measure => simp [intOf]; omega
        · rw [decide_eq_false hvX] at cv
          have HP := Lib.hid (hu2 hvX ⟨hv1, hv2⟩ (by omega))
          clear hu1 hu2 hvX c29 hP
          go_wp2_with fail
          refine (c26 _).mono ?_
          rintro e w' ⟨rfl, rfl⟩
          go_wp2_with fail
          refine (cv _ hXI).mono ?_
          rintro e w' ⟨rfl, rfl⟩
          go_wp2_with (at_builtin; refine wpList_int _ rfl _ _ rfl B _ K X rfl (ho.alloc _) wr.heap.size v rfl (heap_alloc_new wr _) (by omega) (by simp; omega) (wr.heap.size + 1) (by simp) ?_)
          intro g cap w3 ho3 hgr hat hlt3
          have hb3 := (hbl.alloc (o := .cells #[.int .i64 v] 3) hsz).grown hgr (by simp; omega) (fun g hg => (ho.lt g hg).1)
          have hoy3 : OwnI w3 B (.slice (some ⟨B + 1, 0, none⟩) 0 0) 0 [] := by
            refine (hoy.alloc _).keep fun k hk => hgr.block k ?_ ?_
            · cases hk; simp; omega
            · cases hk; exact fun h => HNE.out h.symm
          have hne3 : (Value.slice (some ⟨g, 0, none⟩) (K + 1) cap).ownBlock ≠ some (B + 1) := by
            intro h
            simp only [Value.ownBlock, Option.some.injEq] at h
            rcases hat with h' | h'
            · exact HNE.out (h'.trans (by rw [h]))
            · omega
          have HNE3 := Lib.hid hne3
          clear hne3 hgr hat ho hoy hbl hXI cv
          go_wp2_with fail
          go_roundw
          case rel => exact ⟨k + 1, X ++ [v], by go_num, by omega, HP.out, by rw [List.length_append, HK.out]; exact ho3, hoy3, HNE3.out, hb3⟩
          case measure => simp [intOf]; omega
      · have hu1 := hP.old (v := (k : Int) - l)
        have hu2 := hP.new (v := (k : Int) - l) (by rw [HK.out]; exact hlen)
        have hw : IntKind.i64.wrap ((k : Int) - (l : Int)) = (k : Int) - (l : Int) := IntWalk.i64_in _ (by omega)
        have hv1 : 0 ≤ (k : Int) - (l : Int) := by omega
        have cv := c29 ((k : Int) - (l : Int))
        by_cases hvX : (k : Int) - (l : Int) ∈ X
        · rw [decide_eq_true hvX] at cv
          have HP := Lib.hid (hu1 hvX (fun _ => rfl))
          clear hu1 hu2 hvX c29 hP
          go_wp2_with fail
          refine (cv _ hXI).mono ?_
          rintro e w' ⟨rfl, rfl⟩
          go_wp2_with fail
          go_roundw
          case rel => exact ⟨k + 1, X, by go_num, by omega, HP.out, by rw [HK.out]; exact ho, hoy, HNE.out, hbl⟩
          case measure => simp [intOf]; omega
        · rw [decide_eq_false hvX] at cv
          have HP := Lib.hid (hu2 hvX ⟨hv1, hlt⟩ (fun _ => rfl))
          clear hu1 hu2 hvX c29 hP
          go_wp2_with fail
          refine (cv _ hXI).mono ?_
          rintro e w' ⟨rfl, rfl⟩
          go_wp2_with (at_builtin; refine wpList_int _ rfl _ _ rfl B _ K X rfl (ho.alloc _) wr.heap.size ((k : Int) - (l : Int)) rfl (heap_alloc_new wr _) (by omega) (by simp; omega) (wr.heap.size + 1) (by simp) ?_)
          intro g cap w3 ho3 hgr hat hlt3
          have hb3 := (hbl.alloc (o := .cells #[.int .i64 ((k : Int) - (l : Int))] 3) hsz).grown hgr (by simp; omega) (fun g hg => (ho.lt g hg).1)
          have hoy3 : OwnI w3 B (.slice (some ⟨B + 1, 0, none⟩) 0 0) 0 [] := by
            refine (hoy.alloc _).keep fun k hk => hgr.block k ?_ ?_
            · cases hk; simp; omega
            · cases hk; exact fun h => HNE.out h.symm
          have hne3 : (Value.slice (some ⟨g, 0, none⟩) (K + 1) cap).ownBlock ≠ some (B + 1) := by
            intro h
            simp only [Value.ownBlock, Option.some.injEq] at h
            rcases hat with h' | h'
            · exact HNE.out (h'.trans (by rw [h]))
            · omega
          have HNE3 := Lib.hid hne3
          clear hne3 hgr hat ho hoy hbl hXI cv
          go_wp2_with fail
          go_roundw
          case rel => exact ⟨k + 1, X ++ [((k : Int) - (l : Int))], by go_num, by omega, HP.out, by rw [List.length_append, HK.out]; exact ho3, hoy3, HNE3.out, hb3⟩
          case measure => simp [intOf]; omega
    · have hXN : X.length = N := by have := hP.len; omega
      obtain ⟨A9, c9, rfl, hXI, hXb⟩ := ho.lieS
      have hb0 : Below w2.heap.size w2 wr := by rw [HB.out]; exact hbl
      have hIr := hI.below hb0
      have hIb : ∀ x, A2 = some x → x.block ∉ [B + 1] := by
        intro x hx hm
        rcases hI with h | ⟨b, off, hA, hb, _⟩
        · have := HA.out
          have h0 : a = [] := by simpa using h
          subst h0
          simp at this
          omega
        · rw [hA] at hx
          cases hx
          have h1 := HB.out
          simp at hm
          omega
      have hXb2 : ∀ x, A9 = some x → x.block ∉ [B + 1] := by
        intro x hx hm
        have := (hXb x hx).1
        simp at hm
        exact hne (by rw [this, hm])
      have hys := (hoy.lt (B + 1) rfl).2
      have hsz : B ≤ wr.heap.size := by have := hbl.size; omega
      have hthr := throughR_back hq ha HA.out hP.elem hXN hP.nodup hN1 hNq
      have hXe := hP.elem
      have hvl : (valsAt qn a X).length = N := by simp [valsAt, hXN]
      have c31 : ∀ (x : Int) W, 0 ≤ x ∧ x < (qn : Int) → Ints W A2 a → Calls Try.prog 31 #[.int .i64 qn, .slice A2 N c2, .int .i64 x] W fun e w' => e = .returned (.tuple #[.int .i64 (hv qn x a), .int .i64 0]) ∧ Below W.heap.size W w' := fun x W hx h => by
        have := value_ret qn x A2 c2 a W h (by rw [HA.out]; omega)
        rwa [valueR_el hq ha hx (by rw [HA.out]; omega), HA.out] at this
      have c40 : ∀ (W : World) A C c d, Ints W A X → Ints W C (valsAt qn a X) → Calls Try.prog 40 #[.int .i64 qn, .slice A N c, .slice C N d] W (RetL a 0 W) := fun W A C c d h1 h2 => by
        have := through_ret qn A C c d X (valsAt qn a X) W h1 h2 (by omega) (by omega)
        rwa [hthr, hvl, hXN] at this
      have c23 : ∀ (W : World) A B c d, Ints W A a → Ints W B a → Calls Try.prog 23 #[.slice A N c, .slice B N d] W fun e w' => e = .returned (.bool true) ∧ ∃ z, w' = W.drewN z := fun W A B c d h1 h2 => by
        have := lawsame_any A B N N c d a a W h1 h2 HA.out HA.out (by omega) (by omega)
        simpa using this
      have HX := Lib.hid hXN
      have HIB := Lib.hid hIb
      have HXB := Lib.hid hXb2
      have HXE := Lib.hid hXe
      have HBL := Lib.hid hbl
      rw [hXN] at ho hlen ⊢
      clear hXN hIb hXb2 hXb hne hP hthr hXe hb0 hvl ho hC2 hbl
      obtain ⟨wo, hwo⟩ : ∃ wo, wo = wr := ⟨_, rfl⟩
      subst hwo
      go_wp2
      go_loopw [10, 13] (fun v i wx => ∃ j : Nat, j ≤ N ∧ i = .int .i64 j ∧ OwnI wx B v j (valsAt qn a (X.take j)) ∧ (∀ g, v.ownBlock = some g → g = B + 1 ∨ wo.heap.size ≤ g) ∧ Fr [B + 1] wo wx) (fun _ i _ => N - (intOf i).toNat)
      case atStart => exact ⟨0, by omega, rfl, hoy, by intro g hg; cases hg; exact .inl rfl, Fr.refl _ _⟩
      case round =>
        clear hoy
        obtain ⟨j, hj, rfl, hoy, hob, hfr⟩ := hrel
        have hIx : Ints wr A2 a := At.fr hIr hfr HIB.out
        have hXx : Ints wr A9 X := At.fr hXI hfr HXB.out
        have hszx := hfr.size
        by_cases hlj : j < N
        · obtain ⟨g9, o9, rfl, hg9, hc9⟩ := hXx.get (k := j) (by rw [HX.out]; exact hlj)
          have hxe := elem_get HXE.out (k := j) (by rw [HX.out]; exact hlj)
          have hsn : valsAt qn a (X.take (j + 1)) = valsAt qn a (X.take j) ++ [hv qn (X[j]'(by rw [HX.out]; exact hlj)) a] := by
            rw [List.take_succ_eq_append_getElem (by rw [HX.out]; exact hlj), valsAt_snoc]
          generalize X[j]'(by rw [HX.out]; exact hlj) = x at *
          have cx := fun W h => c31 x W hxe h
          generalize hv qn x a = y at *
          have HSN := Lib.hid hsn
          have HOB := Lib.hid hob
          clear hsn hob c31 c40 c23
          go_wp2_with fail
          refine (cx _ hIx).mono ?_
          rintro e w5 ⟨rfl, hb5⟩
          have hoy5 := hoy.below hb5
          have hfr5 := hfr.trans (fr_of_below hb5 [B + 1] |>.mono (fun k hk _ => hk))
          have hsz5 := hb5.size
          clear cx hoy hfr hb5 hc9 hIx hXx
          go_wp2_with (at_builtin; refine wpList_int _ rfl _ _ rfl B _ j (valsAt qn a (X.take j)) rfl (hoy5.alloc _) w5.heap.size y rfl (heap_alloc_new w5 _) (by omega) (by simp; omega) (w5.heap.size + 1) (by simp) ?_)
          intro g cap w6 hoy6 hgr hat hlt6
          have hfr6 := (hfr5.alloc (.cells #[.int .i64 y] 3)).grown hgr (fun g hg => by rcases HOB.out g hg with h | h; exact .inl (by simp [h]); exact .inr h)
          have hob6 : ∀ g', (Value.slice (some ⟨g, 0, none⟩) (j + 1) cap).ownBlock = some g' → g' = B + 1 ∨ wo.heap.size ≤ g' := by
            intro g' hg
            simp only [Value.ownBlock, Option.some.injEq] at hg
            subst hg
            rcases hat with h | h
            · exact HOB.out _ h
            · right; omega
          have HOB6 := Lib.hid hob6
          clear hgr hat hoy5 hfr5 hob6
          go_wp2_with fail
          go_roundw
          case rel => exact ⟨j + 1, by omega, by go_num, by rw [HSN.out]; exact hoy6, HOB6.out, hfr6⟩
          case measure => simp [intOf]; omega
        · obtain rfl : j = N := by omega
          rw [List.take_of_length_le (by rw [HX.out]; omega)] at hoy
          obtain ⟨A10, c10, rfl, hYI⟩ := hoy.lieW
          have hbl6 : Below w.heap.size w wr := hb12.trans ((HBL.out.trans (hfr.belowOf (B := B) (by omega) (by simp))).mono (by rw [← HB.out]; exact hb12.size))
          clear hoy hob c31
          go_wp2_with fail
          refine (c40 _ _ _ _ _ hXx hYI).mono ?_
          rintro e w7 ⟨v7, rfl, hs7, _, hb7⟩
          obtain ⟨A7, c7, rfl, hZ⟩ := hs7.lieA HA.out
          have hI7 := hIx.below hb7
          have hb17 := hbl6.trans (hb7.mono hbl6.size)
          clear hs7 hb7 c40 hIx hXx hYI hbl6 hfr
          go_wp2_with fail
          refine (c23 _ _ _ _ _ hZ hI7).mono ?_
          rintro e w8 ⟨rfl, z8, rfl⟩
          go_wp2_with (go_at_call 21; refine (lives_any _).mono ?_; rintro e w9 ⟨rfl, hb9⟩)
          have hbf := (hb17.drewN z8).trans (hb9.mono (hb17.drewN z8).size)
          go_ret
          exact ⟨rfl, hbf⟩

theorem back_row (n : Int) (A : Option Addr) (c m : Nat) (p : List Int) (C : Option Addr) (d l : Nat) (r : List Int) (w : World) (hl : l ≤ 100000000000000) (hn : I64 n) (hA : Ints w A p) (hm : p.length = m) (_ : m ≤ c) (_ : A = none → c = 0) (hp : ∀ x ∈ p, I64 x)
    (hC : Ints w C r) (hr : r.length = l) (_ : l ≤ d) (_ : C = none → d = 0) (hrb : ∀ x ∈ r, I64 x) :
    Calls Try.prog 11 #[.int .i64 n, .slice A m c, .slice C l d] w (Said true w) := by
  have hq := ordP_prime n
  have c35 := order_any n w hn
  generalize ordP n = q at *
  have hb := prime_bd hq
  obtain ⟨qn, hqn⟩ : ∃ qn : Nat, q = qn := ⟨q.toNat, by omega⟩
  have c36 : ∀ W, Ints W A p → Calls Try.prog 36 #[.int .i64 q, .slice A m c, .int .i64 q] W (RetInts (folds q (p.take qn)) W) := fun W h => by
    have := elements_law q A c m qn p W hb hp h hm (by omega)
    rwa [← hqn] at this
  have ha : elemB q (folds q (p.take qn)) = true := folds_elem (by omega) _
  have hal : (folds q (p.take qn)).length ≤ qn := by rw [folds_length]; simp; omega
  generalize folds q (p.take qn) = a at *
  by_cases h0 : a = []
  · subst h0
    exact back_none n q A c m p C d l w qn hqn c35 c36 hA
  · have h1 : 1 ≤ a.length := by
      rcases Nat.eq_zero_or_pos a.length with h | h
      · exact absurd (List.eq_nil_of_length_eq_zero h) h0
      · exact h
    exact back_some n q A c m p C d l r a w qn a.length hqn hq c35 c36 hA hC hr hl hrb ha rfl h1 (by omega)
end Go.Proofs.Ytneliejncfncdaa
