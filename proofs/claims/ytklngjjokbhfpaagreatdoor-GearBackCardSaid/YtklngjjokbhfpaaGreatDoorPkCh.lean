/- Texts Ch Ci in one. -/
import Derived.Test.YtklngjjokbhfpaaGreatDoorPkCf
import Derived.Test.YtklngjjokbhfpaaGreatDoorPkN
import Derived.Deep.LoopGhost
namespace Go.Proofs.YtklngjjokbhfpaaGreatDoor
open Go.RowKit

/-- Block B is four cells. -/
def Four (w : World) (B : Nat) (a b c d : Value) (t : TypeId) : Prop := w.heap[B]? = some (.cells #[a, b, c, d] t (0, 0))
section
variable {w : World} {B : Nat} {a b c d : Value} {t : TypeId}
theorem Four.cell0 (h : Four w B a b c d t) : w.cell? ⟨B, 0, none⟩ = some a := by simp [World.cell?, show w.heap[B]? = _ from h]
theorem Four.cell1 (h : Four w B a b c d t) : w.cell? ⟨B, 1, none⟩ = some b := by simp [World.cell?, show w.heap[B]? = _ from h]
theorem Four.free (h : Four w B a b c d t) (k : Nat) : w.frozen? ⟨B, k, none⟩ = false := by simp [World.frozen?, show w.heap[B]? = _ from h]
theorem Four.lt (h : Four w B a b c d t) : B < w.heap.size := by
  rcases Nat.lt_or_ge B w.heap.size with hlt | hge
  · exact hlt
  · have := Array.getElem?_eq_none hge; rw [show w.heap[B]? = _ from h] at this; cases this
theorem Four.below {w' : World} {C : Nat} (h : Four w B a b c d t) (hf : Below C w w') (hB : B < C) : Four w' B a b c d t := (hf.block B hB).trans h
theorem Four.newAt (w : World) (a b c d : Value) (t : TypeId) (B : Nat) (h : B = w.heap.size) : Four (w.alloc (.cells #[a, b, c, d] t)) B a b c d t := by subst h; exact heap_alloc_new w _
theorem Four.alloc (h : Four w B a b c d t) (o : Obj) : Four (w.alloc o) B a b c d t := (Below.heap_alloc w o B h.lt).trans h
end
/-- The value v is a fraction of ref's numbers. -/
def IsRQ (w : World) (v : Value) (p q : Int) (N : Nat) : Prop := ∃ (na : Bool) (a : Value) (nb : Bool) (b : Value), v = .agg #[.bool na, a, .bool nb, b] ∧ IsR w (.agg #[.bool na, a]) p N ∧ IsR w (.agg #[.bool nb, b]) q N
theorem IsRQ.below {w w' : World} {v : Value} {p q : Int} {N : Nat} (h : IsRQ w v p q N) (hb : Below w.heap.size w w') : IsRQ w' v p q N := by
  obtain ⟨na, a, nb, b, rfl, h1, h2⟩ := h
  exact ⟨na, a, nb, b, rfl, h1.below hb, h2.below hb⟩
theorem IsRQ.more {w : World} {v : Value} {p q : Int} {N M : Nat} (h : IsRQ w v p q N) (hm : N ≤ M) : IsRQ w v p q M := by
  obtain ⟨na, a, nb, b, rfl, h1, h2⟩ := h
  exact ⟨na, a, nb, b, rfl, h1.more hm, h2.more hm⟩
theorem IsRQ.open' {w : World} {v : Value} {p q : Int} {N : Nat} (h : IsRQ w v p q N) : ∃ (pa : Bool × Unit) (A : Option Addr) (n c : Nat) (pb : Bool × Unit) (B : Option Addr) (m d : Nat), v = .agg #[.bool pa.1, .slice A n c, .bool pb.1, .slice B m d] ∧ IsR w (.agg #[.bool pa.1, .slice A n c]) p N ∧ IsR w (.agg #[.bool pb.1, .slice B m d]) q N := by
  obtain ⟨na, a, nb, b, rfl, h1, h2⟩ := h
  obtain ⟨na', A, n, c, _, h3, -⟩ := h1.open'
  obtain ⟨nb', B, m, d, _, h4, -⟩ := h2.open'
  simp at h3 h4
  obtain ⟨rfl, rfl⟩ := h3
  obtain ⟨rfl, rfl⟩ := h4
  exact ⟨(na, ()), A, n, c, (nb, ()), B, m, d, rfl, h1, h2⟩
theorem IsR.agg' {w : World} {v : Value} {z : Int} {N : Nat} (h : IsR w v z N) : ∃ (p : Bool × Unit) (A : Option Addr) (n c : Nat), v = .agg #[.bool p.1, .slice A n c] := by
  obtain ⟨neg, A, n, c, m, rfl, -⟩ := h.open'
  exact ⟨(neg, ()), A, n, c, rfl⟩
theorem qcell_no' {b1 b2 : Bool} {A1 A2 : Option Addr} {n1 c1 n2 c2 : Nat} (off : Nat) (x : Int) : (#[.bool b1, .slice A1 n1 c1, .bool b2, .slice A2 n2 c2] : Array Value)[off]? ≠ some (.int .i64 x) := by
  intro h
  rcases off with _ | _ | _ | _ | off <;> simp at h
theorem IsR.storedQ {w : World} {v : Value} {z : Int} {N R : Nat} {u0 u1 u2 u3 : Value} {t : TypeId} (h : IsR w v z N) (hR : Four w R (.bool false) (.slice none 0 0) (.bool false) (.slice none 0 0) t) : IsR ((((w.setCell ⟨R, 0, none⟩ u0).setCell ⟨R, 1, none⟩ u1).setCell ⟨R, 2, none⟩ u2).setCell ⟨R, 3, none⟩ u3) v z N :=
  h.put hR qcell_no' (by simp [World.setCell]) fun k hk => by rw [Below.heap_setCell _ _ _ _ (by simpa using hk), Below.heap_setCell _ _ _ _ (by simpa using hk), Below.heap_setCell _ _ _ _ (by simpa using hk), Below.heap_setCell _ _ _ _ (by simpa using hk)]
theorem RetV.w {x : Value} {w w' : World} {e : Ending} (h : RetV x w e w') : RetW x w e w' := RetW.of h

end Go.Proofs.YtklngjjokbhfpaaGreatDoor

namespace Go.Proofs.YtklngjjokbhfpaaGreatDoor
open Go.RowKit

theorem IsR.zero {w : World} {b : Bool} {A : Option Addr} {n c : Nat} {z : Int} {N : Nat} (h : IsR w (.agg #[.bool b, .slice A n c]) z N) : (n = 0 ↔ z = 0) := by
  obtain ⟨neg, A', n', c', m, e, hm, h1, h2, -, h3⟩ := h.open'
  have e' := e
  simp at e'
  obtain ⟨rfl, rfl, rfl, rfl⟩ := e'
  rw [h3]
  cases b with
  | false => simp at h1; omega
  | true => have := h2 rfl; simp at h1; omega
theorem gcd_mod (x : Int) (y : Nat) (hx : 0 ≤ x) (_hy : 0 < y) : Nat.gcd y (x % (y : Int)).toNat = Nat.gcd x.toNat y := by
  obtain ⟨a, rfl⟩ : ∃ a : Nat, x = (a : Int) := ⟨x.toNat, by omega⟩
  rw [show ((a : Int) % (y : Int)).toNat = a % y by omega, Int.toNat_natCast, Nat.gcd_comm a y, Nat.gcd_rec y a, Nat.gcd_comm]

/-- A number's digits lie in no block of a bool and a slice: such blocks may be written. -/
theorem IsR.set01 {w : World} {v : Value} {z : Int} {N : Nat} (h : IsR w v z N) {R : Nat} {b : Bool} {A : Option Addr} {n c : Nat} {t : TypeId} (hR : Two w R (.bool b) (.slice A n c) t) (u0 u1 : Value) : IsR ((w.setCell ⟨R, 0, none⟩ u0).setCell ⟨R, 1, none⟩ u1) v z N :=
  h.put hR rcell_no (by simp [World.setCell]) fun k hk => by rw [Below.heap_setCell _ _ _ _ (by simpa using hk), Below.heap_setCell _ _ _ _ (by simpa using hk)]

set_option maxRecDepth 100000 in
set_option maxHeartbeats 3200000 in
theorem rgcd_any {w : World} {u v : Value} {x y : Int} {N : Nat} (hu : IsR w u x N) (hv : IsR w v y N) (hN : N ≤ 280) :
    Calls Tryz.prog 19 #[u, v] w (RetR ((Int.gcd x y : Nat) : Int) N w) := by
  have ca : ∀ W, Below w.heap.size w W → Calls Tryz.prog 35 #[u] W (RetR (x.natAbs : Int) N W) := fun W hb => rabs_any (hu.below hb)
  have cb : ∀ W, Below w.heap.size w W → Calls Tryz.prog 35 #[v] W (RetR (y.natAbs : Int) N W) := fun W hb => rabs_any (hv.below hb)
  obtain ⟨p0, A0, n0, c0, rfl⟩ := hu.agg'
  obtain ⟨p1, A1, n1, c1, rfl⟩ := hv.agg'
  clear hu hv
  obtain ⟨W3, hW3⟩ : ∃ W3, W3 = (((w.alloc (.cells #[.bool p0.1, .slice A0 n0 c0] 43)).alloc (.cells #[.bool p1.1, .slice A1 n1 c1] 43)).alloc (.cells #[.bool false, .slice none 0 0] 43)) := ⟨_, rfl⟩
  have hB : Below w.heap.size w W3 := by rw [hW3]; exact ((((Below.refl _ _).alloc (Nat.le_refl _) _).alloc (by simp; try omega) _).alloc (by simp; try omega) _)
  have HBW := Lib.hid hB
  have HF := Lib.hid (show Two W3 (w.heap.size) (.bool p0.1) (.slice A0 n0 c0) 43 by rw [hW3]; exact (((((Two.newAt _ _ _ _ _ (by simp))).alloc _)).alloc _))
  have HG := Lib.hid (show Two W3 (w.heap.size + 1) (.bool p1.1) (.slice A1 n1 c1) 43 by rw [hW3]; exact (((Two.newAt _ _ _ _ _ (by simp))).alloc _))
  have HR := Lib.hid (show Two W3 (w.heap.size + 1 + 1) (.bool false) (.slice none 0 0) 43 by rw [hW3]; exact (Two.newAt _ _ _ _ _ (by simp)))
  clear hB
  go_enter Tryz.func19, Tryz.ntmps19
  go_wp2_with fail
  rw [← hW3]
  clear hW3
  refine Lex.wp_region_lex (fun w' => Two w' (w.heap.size + 1) (.bool p1.1) (.slice A1 n1 c1) 43) (fun j => j != 5)
    [(2, true), (0, false), (1, false), (3, false), (4, false), (5, false)]
    (by kernel_rfl) (by kernel_rfl) (by kernel_rfl) (by kernel_rfl) HG.out ?_
  iterate 1 (refine Lex.lex_take (v := ?_) rfl rfl (by rfl) (fun _ hS => ?_) ?_; rotate_left 1; (focus (have g0_0 := hS.cell0; have g0_1 := hS.cell1; clear hS; go_simp; with_reducible rfl)); simp only [List.setIfInBounds_toArray, List.set_cons_zero, List.set_cons_succ])
  refine Lex.lex_do rfl ?_
  have hb0 : Below W3.heap.size W3 W3.drew := ⟨rfl, rfl, rfl, Nat.le_refl _, fun _ _ => rfl⟩
  have hw0 : Below w.heap.size w W3.drew := ⟨HBW.out.os, HBW.out.tape, HBW.out.output, HBW.out.size, HBW.out.block⟩
  generalize hV0 : W3.drew = V0 at *
  clear hV0
  have e0 := (HF.out.below hb0 HF.out.lt).cell0
  have e1 := (HF.out.below hb0 HF.out.lt).cell1
  go_wp2_with fail
  have E0 := HG.out.below hb0 HG.out.lt
  refine Lex.lexQ_normal (fun _ => E0) ?_
  refine Lex.lex_do rfl ?_
  clear E0
  clear e0 e1
  have cc := ca V0 hw0
  go_wp2_with fail
  refine cc.mono ?_
  rintro e V1 ⟨v1, rfl, hm1, hn1⟩
  have hb1 := hb0.trans (hn1.mono hb0.size)
  have hw1 := hw0.trans (hn1.mono hw0.size)
  clear cc hb0 hw0 hn1
  go_wp2_with fail
  have E0 := HG.out.below hb1 HG.out.lt
  refine Lex.lexQ_normal (fun _ => E0) ?_
  refine Lex.lex_do rfl ?_
  clear E0
  have cc := cb V1 hw1
  go_wp2_with fail
  refine cc.mono ?_
  rintro e V2 ⟨v2, rfl, hm2, hn2⟩
  have hb2 := hb1.trans (hn2.mono hb1.size)
  have hw2 := hw1.trans (hn2.mono hw1.size)
  have hm1 := hm1.below hn2
  clear cc hb1 hw1 hn2
  go_wp2_with fail
  have E0 := HG.out.below hb2 HG.out.lt
  refine Lex.lexQ_normal (fun _ => E0) ?_
  refine Lex.lex_do rfl ?_
  clear E0
  obtain ⟨p5, A5, n5, c5, rfl⟩ := hm1.agg'
  obtain ⟨p6, A6, n6, c6, rfl⟩ := hm2.agg'
  have F1 := HF.out.below hb2 HF.out.lt
  have F2 := HG.out.below hb2 HG.out.lt
  have F3 := HR.out.below hb2 HR.out.lt
  have r0 := F1.cell0
  have r1 := F1.cell1
  have g0 := F1.free 0
  have g1 := F1.free 1
  have r2 := F2.cell0
  have r3 := F2.cell1
  have g2 := F2.free 0
  have g3 := F2.free 1
  have GA := Lib.hid ((((F1.set0 (.bool p5.1)).set1 (.slice A5 n5 c5)).setOther ⟨w.heap.size + 1, 0, none⟩ (.bool p6.1) (by dsimp only; omega)).setOther ⟨w.heap.size + 1, 1, none⟩ (.slice A6 n6 c6) (by dsimp only; omega))
  have GB := Lib.hid ((((F2.setOther ⟨w.heap.size, 0, none⟩ (.bool p5.1) (by dsimp only; omega)).setOther ⟨w.heap.size, 1, none⟩ (.slice A5 n5 c5) (by dsimp only; omega)).set0 (.bool p6.1)).set1 (.slice A6 n6 c6))
  have GR := Lib.hid ((((F3.setOther ⟨w.heap.size, 0, none⟩ (.bool p5.1) (by dsimp only; omega)).setOther ⟨w.heap.size, 1, none⟩ (.slice A5 n5 c5) (by dsimp only; omega)).setOther ⟨w.heap.size + 1, 0, none⟩ (.bool p6.1) (by dsimp only; omega)).setOther ⟨w.heap.size + 1, 1, none⟩ (.slice A6 n6 c6) (by dsimp only; omega))
  have HM1 := Lib.hid ((hm1.set01 F1 (.bool p5.1) (.slice A5 n5 c5)).set01 ((F2.setOther ⟨w.heap.size, 0, none⟩ (.bool p5.1) (by dsimp only; omega)).setOther ⟨w.heap.size, 1, none⟩ (.slice A5 n5 c5) (by dsimp only; omega)) (.bool p6.1) (.slice A6 n6 c6))
  have HM2 := Lib.hid ((hm2.set01 F1 (.bool p5.1) (.slice A5 n5 c5)).set01 ((F2.setOther ⟨w.heap.size, 0, none⟩ (.bool p5.1) (by dsimp only; omega)).setOther ⟨w.heap.size, 1, none⟩ (.slice A5 n5 c5) (by dsimp only; omega)) (.bool p6.1) (.slice A6 n6 c6))
  have HWE := Lib.hid ((((hw2.setCell (p := ⟨w.heap.size, 0, none⟩) (by simp) (.bool p5.1)).setCell (p := ⟨w.heap.size, 1, none⟩) (by simp) (.slice A5 n5 c5)).setCell (p := ⟨w.heap.size + 1, 0, none⟩) (by simp) (.bool p6.1)).setCell (p := ⟨w.heap.size + 1, 1, none⟩) (by simp) (.slice A6 n6 c6))
  have E9 := ((F2.setOther ⟨w.heap.size, 0, none⟩ (.bool p5.1) (by dsimp only; omega)).setOther ⟨w.heap.size, 1, none⟩ (.slice A5 n5 c5) (by dsimp only; omega))
  clear hm1 hm2 F1 F2 F3 hb2 hw2
  go_wp2_with fail
  have E0 := E9
  refine Lex.lexQ_normal (fun _ => E0) ?_
  refine Lex.lex_do rfl ?_
  clear E0
  clear E9
  go_wp2_with fail
  refine Lex.lexQ_normal (fun h => absurd h (by decide)) ?_
  refine Lex.lex_nil ?_
  obtain ⟨U, hU⟩ : ∃ U, U = (((V2.setCell ⟨w.heap.size, 0, none⟩ (.bool p5.1)).setCell ⟨w.heap.size, 1, none⟩ (.slice A5 n5 c5)).setCell ⟨w.heap.size + 1, 0, none⟩ (.bool p6.1)).setCell ⟨w.heap.size + 1, 1, none⟩ (.slice A6 n6 c6) := ⟨_, rfl⟩
  rw [← hU] at GA GB GR HM1 HM2 HWE
  rw [← hU]
  clear hU r0 r1 r2 r3 g0 g1 g2 g3
  go_wp2_with fail
  go_loopg [5] y.natAbs (fun gk _ wr => ∃ (p5 : Bool × Unit) (A5 : Option Addr) (n5 c5 : Nat) (p6 : Bool × Unit) (A6 : Option Addr) (n6 c6 : Nat) (xa : Int), 0 ≤ xa ∧ IsR wr (.agg #[.bool p5.1, .slice A5 n5 c5]) xa N ∧ IsR wr (.agg #[.bool p6.1, .slice A6 n6 c6]) (gk : Int) N ∧ Nat.gcd xa.toNat gk = Int.gcd x y ∧ Two wr w.heap.size (.bool p5.1) (.slice A5 n5 c5) 43 ∧ Two wr (w.heap.size + 1) (.bool p6.1) (.slice A6 n6 c6) 43 ∧ Two wr (w.heap.size + 1 + 1) (.bool false) (.slice none 0 0) 43 ∧ Below w.heap.size w wr)
  case atStart => exact ⟨p5, A5, n5, c5, p6, A6, n6, c6, (x.natAbs : Int), by omega, HM1.out, HM2.out, by rw [Int.toNat_natCast]; rfl, GA.out, GB.out, GR.out, HWE.out⟩
  case round =>
    clear GA GB GR HM1 HM2 HWE
    obtain ⟨pa, Aa, na, ca, pb, Ab, nb, cb, xa, hx0, hxa, hyb, hg, hA, hB, hR, hbl⟩ := hrel
    have hz := hyb.zero
    have k0 := hB.cell0
    have k1 := hB.cell1
    by_cases hy : gk = 0
    · subst hy
      obtain rfl : nb = 0 := hz.2 rfl
      have hgx : ((Int.gcd x y : Nat) : Int) = xa := by rw [← hg, Nat.gcd_zero_right]; omega
      have HGX := Lib.hid hgx
      have HX := Lib.hid hxa
      have HBL := Lib.hid hbl
      have HR' := Lib.hid hR
      have j0 := hA.cell0
      have j1 := hA.cell1
      have q0 := hR.cell0
      have q1 := hR.cell1
      have f0 := hR.free 0
      have f1 := hR.free 1
      clear hz hg hgx hxa hyb hbl hA hB hR
      go_wp2
      refine bodyPost_ret (v := .agg #[.bool pa.1, .slice Aa na ca]) (by simp [results, Tryz.results19, go_sem, q0, q1]) rfl ⟨_, rfl, ?_, ?_⟩
      · rw [HGX.out]
        exact HX.out.stored HR'.out
      · exact (HBL.out.setCell (by simp; try omega) _).setCell (by simp; try omega) _
    · have hn0 : 0 < nb := by
        rcases Nat.eq_zero_or_pos nb with h | h
        · exact absurd (hz.1 h) (by omega)
        · exact h
      have d1 : decide (0 < nb) = true := decide_eq_true hn0
      have d2 : decide ((0 : Int) < (nb : Int)) = true := decide_eq_true (by omega)
      have cdm := (rdivmod_any hxa hyb (by omega) (by omega) (by omega)).mono fun e w' h => RetDM.fit h (by omega) (K := N) (L := N) hxa.bound (by have := hyb.bound; omega)
      have hgn := gcd_mod xa gk hx0 (by omega)
      rw [hg] at hgn
      have hm1 := Int.emod_nonneg xa (show (gk : Int) ≠ 0 by omega)
      have hm2 := Int.emod_lt_of_pos xa (show (0 : Int) < gk by omega)
      have HGN := Lib.hid hgn
      have HY := Lib.hid hyb
      have HA := Lib.hid hA
      have HB := Lib.hid hB
      have HRR := Lib.hid hR
      have HBL := Lib.hid hbl
      have HM := Lib.hid hm1
      have HM' := Lib.hid hm2
      have j0 := hA.cell0
      have j1 := hA.cell1
      clear hz hg hgn hxa hyb hbl hm1 hm2 hA hB hR hx0 hn0
      go_wp2_with fail
      refine cdm.mono ?_
      rintro e V1 ⟨v1, v2, rfl, hq1, hq2, hn1⟩
      clear cdm j0 j1 k0 k1
      obtain ⟨p7, A7, n7, c7, rfl⟩ := hq1.agg'
      obtain ⟨p8, A8, n8, c8, rfl⟩ := hq2.agg'
      have hw1 := HBL.out.trans (hn1.mono HBL.out.size)
      have hsA := HRR.out.lt
      have hszV := hn1.size
      obtain ⟨W5, hW5⟩ : ∃ W5, W5 = (V1.alloc (.cells #[.bool p7.1, .slice A7 n7 c7] 43)).alloc (.cells #[.bool p8.1, .slice A8 n8 c8] 43) := ⟨_, rfl⟩
      have hbV : Below V1.heap.size V1 W5 := by rw [hW5]; exact ((Below.refl _ _).alloc (Nat.le_refl _) _).alloc (by simp) _
      have T2 : Two W5 (V1.heap.size + 1) (.bool p8.1) (.slice A8 n8 c8) 43 := by rw [hW5]; exact Two.newAt _ _ _ _ _ (by simp)
      have hbA : Below wr.heap.size wr W5 := hn1.trans (hbV.mono hn1.size)
      have F1 := HA.out.below hbA HA.out.lt
      have F2 := HB.out.below hbA HB.out.lt
      have F3 := HRR.out.below hbA HRR.out.lt
      have hmy := HY.out.below hbA
      have hmr := hq2.below hbV
      have hw5 := HBL.out.trans (hbA.mono HBL.out.size)
      have HF1 := Lib.hid F1
      have HF2 := Lib.hid F2
      have HF3 := Lib.hid F3
      have HT2 := Lib.hid T2
      have HMY := Lib.hid hmy
      have HMR := Lib.hid hmr
      have HBW5 := Lib.hid hw5
      have HLT := Lib.hid (show w.heap.size + 1 + 1 < V1.heap.size by omega)
      clear hq1 hq2 hn1 hw1 hbV T2 hbA F1 F2 F3 hmy hmr hw5 hsA hszV
      go_upto_region 4 with fail
      rw [← hW5]
      clear hW5
      refine Lex.wp_region_lex (fun w' => Two w' (w.heap.size + 1) (.bool pb.1) (.slice Ab nb cb) 43 ∧ Two w' (V1.heap.size + 1) (.bool p8.1) (.slice A8 n8 c8) 43) (fun j => j != 3)
        [(0, true), (1, true), (2, false), (3, false)]
        (by kernel_rfl) (by kernel_rfl) (by kernel_rfl) (by kernel_rfl) ⟨HF2.out, HT2.out⟩ ?_
      iterate 2 (refine Lex.lex_take (v := ?_) rfl rfl (by rfl) (fun _ hS => ?_) ?_; rotate_left 1; (focus (have g0_0 := hS.1.cell0; have g0_1 := hS.1.cell1; have g1_0 := hS.2.cell0; have g1_1 := hS.2.cell1; clear hS; go_simp; with_reducible rfl)); simp only [List.setIfInBounds_toArray, List.set_cons_zero, List.set_cons_succ])
      refine Lex.lex_do rfl ?_
      have hb0 : Below W5.heap.size W5 W5.drew := ⟨rfl, rfl, rfl, Nat.le_refl _, fun _ _ => rfl⟩
      have hw0 : Below w.heap.size w W5.drew := ⟨HBW5.out.os, HBW5.out.tape, HBW5.out.output, HBW5.out.size, HBW5.out.block⟩
      generalize hV0 : W5.drew = V0 at *
      clear hV0
      have F1 := HF1.out.below hb0 HF1.out.lt
      have F2 := HF2.out.below hb0 HF2.out.lt
      have F3 := HF3.out.below hb0 HF3.out.lt
      have T2 := HT2.out.below hb0 HT2.out.lt
      have r0 := F1.cell0
      have r1 := F1.cell1
      have g0 := F1.free 0
      have g1 := F1.free 1
      have r2 := F2.cell0
      have r3 := F2.cell1
      have g2 := F2.free 0
      have g3 := F2.free 1
      have GA := Lib.hid ((((F1.set0 (.bool pb.1)).set1 (.slice Ab nb cb)).setOther ⟨w.heap.size + 1, 0, none⟩ (.bool p8.1) (by dsimp only; omega)).setOther ⟨w.heap.size + 1, 1, none⟩ (.slice A8 n8 c8) (by dsimp only; omega))
      have GB := Lib.hid ((((F2.setOther ⟨w.heap.size, 0, none⟩ (.bool pb.1) (by dsimp only; omega)).setOther ⟨w.heap.size, 1, none⟩ (.slice Ab nb cb) (by dsimp only; omega)).set0 (.bool p8.1)).set1 (.slice A8 n8 c8))
      have GR := Lib.hid ((((F3.setOther ⟨w.heap.size, 0, none⟩ (.bool pb.1) (by dsimp only; omega)).setOther ⟨w.heap.size, 1, none⟩ (.slice Ab nb cb) (by dsimp only; omega)).setOther ⟨w.heap.size + 1, 0, none⟩ (.bool p8.1) (by dsimp only; omega)).setOther ⟨w.heap.size + 1, 1, none⟩ (.slice A8 n8 c8) (by dsimp only; omega))
      have hmy := HMY.out.below hb0
      have hmr := HMR.out.below hb0
      have HM1 := Lib.hid ((hmy.set01 F1 (.bool pb.1) (.slice Ab nb cb)).set01 ((F2.setOther ⟨w.heap.size, 0, none⟩ (.bool pb.1) (by dsimp only; omega)).setOther ⟨w.heap.size, 1, none⟩ (.slice Ab nb cb) (by dsimp only; omega)) (.bool p8.1) (.slice A8 n8 c8))
      have HM2 := Lib.hid ((hmr.set01 F1 (.bool pb.1) (.slice Ab nb cb)).set01 ((F2.setOther ⟨w.heap.size, 0, none⟩ (.bool pb.1) (by dsimp only; omega)).setOther ⟨w.heap.size, 1, none⟩ (.slice Ab nb cb) (by dsimp only; omega)) (.bool p8.1) (.slice A8 n8 c8))
      have HWE := Lib.hid ((((hw0.setCell (p := ⟨w.heap.size, 0, none⟩) (by simp) (.bool pb.1)).setCell (p := ⟨w.heap.size, 1, none⟩) (by simp) (.slice Ab nb cb)).setCell (p := ⟨w.heap.size + 1, 0, none⟩) (by simp) (.bool p8.1)).setCell (p := ⟨w.heap.size + 1, 1, none⟩) (by simp) (.slice A8 n8 c8))
      have E8 := ((F2.setOther ⟨w.heap.size, 0, none⟩ (.bool pb.1) (by dsimp only; omega)).setOther ⟨w.heap.size, 1, none⟩ (.slice Ab nb cb) (by dsimp only; omega))
      have E9 := ((T2.setOther ⟨w.heap.size, 0, none⟩ (.bool pb.1) (by have := HLT.out; simp; omega)).setOther ⟨w.heap.size, 1, none⟩ (.slice Ab nb cb) (by have := HLT.out; simp; omega))
      clear hmy hmr F1 F2 F3 T2 hb0 hw0
      go_wp2_with fail
      have E0 := E8
      have E1 := E9
      refine Lex.lexQ_normal (fun _ => ⟨E0, E1⟩) ?_
      refine Lex.lex_do rfl ?_
      clear E0 E1
      clear E8 E9
      go_wp2_with fail
      refine Lex.lexQ_normal (fun h => absurd h (by decide)) ?_
      refine Lex.lex_nil ?_
      go_wp2
      go_roundg (xa % (gk : Int)).toNat
      case rel =>
        refine ⟨pb, Ab, nb, cb, p8, A8, n8, c8, (gk : Int), by omega, HM1.out, ?_, by rw [Int.toNat_natCast]; exact HGN.out, GA.out, GB.out, GR.out, HWE.out⟩
        rw [show (((xa % (gk : Int)).toNat : Nat) : Int) = xa % (gk : Int) from Int.toNat_of_nonneg HM.out]
        exact HM2.out
      case measure => have := HM.out; have := HM'.out; omega

end Go.Proofs.YtklngjjokbhfpaaGreatDoor
