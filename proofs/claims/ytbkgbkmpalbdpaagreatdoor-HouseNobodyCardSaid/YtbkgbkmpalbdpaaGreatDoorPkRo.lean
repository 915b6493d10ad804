/- Texts Ro Rp Rq Rr Rs Ua Vb in one. -/
import Derived.Test.YtbkgbkmpalbdpaaGreatDoorPkRk
import Derived.Test.YtbkgbkmpalbdpaaGreatDoorPkRg
namespace Go.Proofs.YtbkgbkmpalbdpaaGreatDoor
open Go.RowKit Go.Lib

/-- House H keeps the versions xs; the blocks P are the callers'. -/
def HS (B H : Nat) (P : List Nat) (w : World) (xs : List (Nat × Tr)) : Prop := ∃ S D R M K c X cur, HouseB w H D S ∧ Sto X w S D R M 4096 2 K c xs cur [] false false 0 ∧ (∀ x ∈ X, x < w.heap.size) ∧ H ∈ X ∧ (∀ p ∈ P, p ∈ X) ∧ H ∉ P ∧ (∀ x ∈ xs, ∀ p ∈ x.2.addrs, p ∉ P ∧ p ≠ H) ∧ B ≤ S ∧ B ≤ D ∧ B ≤ R ∧ B ≤ M
theorem HS.le {B H : Nat} {P : List Nat} {w : World} {xs : List (Nat × Tr)} (h : HS B H P w xs) : B ≤ w.heap.size ∧ H < w.heap.size ∧ ∀ p ∈ P, p < w.heap.size := by
  obtain ⟨S, D, R, M, K, c, X, cur, h1, h2, h3, h4, h5, h6, h7, b1, b2, b3, b4⟩ := h
  exact ⟨by have := Blk.lt h2.st; omega, h3 H h4, fun p hp => h3 p (h5 p hp)⟩
theorem HS.below {B H : Nat} {P P' : List Nat} {w w' : World} {xs : List (Nat × Tr)} (h : HS B H P w xs) (hb : Below w.heap.size w w') (hP : ∀ p ∈ P', p ∈ P ∨ (w.heap.size ≤ p ∧ p < w'.heap.size)) : HS B H P' w' xs := by
  obtain ⟨S, D, R, M, K, c, X, cur, h1, h2, h3, h4, h5, h6, h7, b⟩ := h
  refine ⟨S, D, R, M, K, c, P' ++ X, cur, Blk.below h1 hb, h2.below hb (fun x hx => by simp [hx]) (fun x hx => ?_), fun x hx => ?_, by simp [h4], fun p hp => by simp [hp], fun q => ?_, fun x hx p hp => ⟨fun q => ?_, (h7 x hx p hp).2⟩, b⟩
  · rcases List.mem_append.1 hx with q | q
    · exact (hP x q).imp (h5 x) (fun q => q.1)
    · exact .inl q
  · rcases List.mem_append.1 hx with q | q
    · rcases hP x q with q2 | q2
      · exact Nat.lt_of_lt_of_le (h3 x (h5 x q2)) hb.size
      · exact q2.2
    · exact Nat.lt_of_lt_of_le (h3 x q) hb.size
  · rcases hP H q with q2 | q2
    · exact h6 q2
    · have := h3 H h4; omega
  · rcases hP p q with q2 | q2
    · exact (h7 x hx p hp).1 q2
    · have := h3 p ((h2.trees x hx).inX p hp); omega
theorem HS.set {B H : Nat} {P : List Nat} {w w' : World} {xs : List (Nat × Tr)} {p : Nat} (h : HS B H P w xs) (hp : p ∈ P) (hf : Fr [p] w w') : HS B H P w' xs := by
  obtain ⟨S, D, R, M, K, c, X, cur, h1, h2, h3, h4, h5, h6, h7, b⟩ := h
  refine ⟨S, D, R, M, K, c, X, cur, Blk.fr h1 hf (fun q => h6 (by simp at q; rw [q]; exact hp)), h2.fr hf (fun x hx => .inl (by simp at hx; rw [hx]; exact h5 p hp)) (fun x hx => .inl hx) (fun x hx q hq => ⟨fun e => ?_, (h2.trees x hx).inX q hq⟩), fun x hx => Nat.lt_of_lt_of_le (h3 x hx) hf.size, h4, h5, h6, h7, b⟩
  simp at e
  exact (h7 x hx q hq).1 (e ▸ hp)
theorem HS.mono {B H : Nat} {P P' : List Nat} {w : World} {xs : List (Nat × Tr)} (h : HS B H P w xs) (hP : ∀ p ∈ P', p ∈ P) : HS B H P' w xs := h.below (Below.refl _ _) (fun p hp => .inl (hP p hp))
/-- Behind a commit. -/
theorem HS.commit {B H num : Nat} {P : List Nat} {w w' : World} {xs : List (Nat × Tr)} {S D R M K c : Nat} {X : List Nat} {cur : Nat → Option (List UInt8)} {Q : Tr → Prop} {e : Ending}
    (h1 : HouseB w H D S) (h2 : Sto X w S D R M 4096 2 K c xs cur [] false false 0) (h3 : ∀ x ∈ X, x < w.heap.size) (h4 : H ∈ X) (h5 : ∀ p ∈ P, p ∈ X) (h6 : H ∉ P) (h7 : ∀ x ∈ xs, ∀ p ∈ x.2.addrs, p ∉ P ∧ p ≠ H) (b : B ≤ S ∧ B ≤ D ∧ B ≤ R ∧ B ≤ M)
    (hr : RetCommit X S D R M 4096 2 num 0 xs Q cur w e w') : ∃ t f, e = .returned (.tuple #[.int .i64 ((num + 1 : Nat) : Int), .int .i64 0]) ∧ Q t ∧ HS B H P w' (keptOf 2 num (t.asg f) xs) ∧ Below B w w' ∧ (∀ p ∈ P, w'.heap[p]? = w.heap[p]?) := by
  obtain ⟨hf, t, fl, hq, _, _, _, hta, hc⟩ := hr
  rcases hc with ⟨K', c', M', left', rfl, hM, hl, hs⟩ | ⟨hne, _⟩
  rotate_left 1
  · exact absurd rfl hne
  have hX0 := h2.is.dk.notX
  obtain rfl : left' = 0 := by omega
  refine ⟨t, fA t.fresh fl t.fresh.length, rfl, hq, ⟨S, D, R, M', K', c', t.addrs ++ X, _, Blk.fr h1 hf (fun q => ?_), hs, fun x hx => ?_, by simp [h4], fun p hp => by simp [h5 p hp], h6, fun x hx p hp => ?_, b.1, b.2.1, b.2.2.1, ?_⟩, hf.belowOf (by have := Blk.lt h2.st; omega) (fun k hk => ?_), fun p hp => hf.block p (h3 p (h5 p hp)) (fun q => ?_)⟩
  · simp only [List.mem_cons, List.not_mem_nil, or_false] at q
    rcases q with q | q | q | q
    · exact h2.is.notX.1 (q ▸ h4)
    · exact hX0.1 (by rw [← q]; simp [h4])
    · exact hX0.2.1 (by rw [← q]; simp [h4])
    · exact hX0.2.2 (by rw [← q]; simp [h4])
  · rcases List.mem_append.1 hx with q | q
    · have h8 := (hs.trees (num + 1, t.asg (fA t.fresh fl t.fresh.length)) (by unfold keptOf; simp)).here.lt x (by rw [Tr.asg_addrs]; exact q)
      exact h8
    · exact Nat.lt_of_lt_of_le (h3 x q) hf.size
  · have hpt : (∃ y ∈ xs, p ∈ y.2.addrs) ∨ w.heap.size ≤ p := by
      rcases keptOf_mem hx with q | q
      · rw [q, Tr.asg_addrs] at hp
        exact hta p hp
      · exact .inl ⟨x, q, hp⟩
    rcases hpt with ⟨y, hy, hpy⟩ | q
    · exact h7 y hy p hpy
    · refine ⟨fun hP => ?_, fun e => ?_⟩
      · have := h3 p (h5 p hP); omega
      · have := h3 H h4; omega
  · rcases hM with q | q
    · rw [q]; exact b.2.2.2
    · have := Blk.lt h2.st; omega
  · simp only [List.mem_cons, List.not_mem_nil, or_false] at hk
    omega
  · have hpX := h5 p hp
    simp only [List.mem_cons, List.not_mem_nil, or_false] at q
    rcases q with q | q | q | q
    · exact h2.is.notX.1 (q ▸ hpX)
    · exact hX0.1 (by rw [← q]; simp [hpX])
    · exact hX0.2.1 (by rw [← q]; simp [hpX])
    · exact hX0.2.2 (by rw [← q]; simp [hpX])
/-- The library's variables stand, whatever is done beyond B. -/
def LibB (B : Nat) (w : World) : Prop := ∀ W, Below B w W → LibOk W
theorem LibB.next {B : Nat} {w w' : World} (h : LibB B w) (hb : Below B w w') : LibB B w' := fun W q => h W (hb.trans q)
theorem LibB.here {B : Nat} {w : World} (h : LibB B w) : LibOk w := h w (Below.refl _ _)
end Go.Proofs.YtbkgbkmpalbdpaaGreatDoor

namespace Go.Proofs.YtbkgbkmpalbdpaaGreatDoor
open Go.RowKit Go.Lib

def versionW : List UInt8 := [118, 101, 114, 115, 105, 111, 110]
/-- What a commit of the house gives. -/
def HCom (B H num : Nat) (P : List Nat) (xs : List (Nat × Tr)) (Q : Tr → Prop) (w : World) (e : Ending) (w' : World) : Prop := ∃ v t f, e = .returned v ∧ RepOk w.heap.size [rowT versionW [num + 1]] w' v ∧ Q t ∧ HS B H P w' (keptOf 2 num (t.asg f) xs) ∧ Below B w w' ∧ (∀ p ∈ P, w'.heap[p]? = w.heap[p]?)
/-- A reply is stored in a cell of the caller's. -/
theorem HCom.store {B H num A : Nat} {P : List Nat} {xs : List (Nat × Tr)} {Q : Tr → Prop} {w W w' : World} {e : Ending} (hb : Below w.heap.size w W) (hP : ∀ p ∈ P, p < w.heap.size) (hA : w.heap.size ≤ A) (hBw : B ≤ w.heap.size) (hAW : W.heap[A]? = some (.cells #[.slice none 0 0, .int .i64 0] 60 (0, 0))) (h : HCom B H num (A :: P) xs Q W e w') :
    ∃ g c, e = .returned (.agg #[.slice (some ⟨g, 0, none⟩) 1 c, .int .i64 0]) ∧ Blk w' A #[.slice none 0 0, .int .i64 0] 60 ∧ (∀ W', W' = (w'.setCell ⟨A, 0, none⟩ (.slice (some ⟨g, 0, none⟩) 1 c)).setCell ⟨A, 1, none⟩ (.int .i64 0) → Blk W' A #[.slice (some ⟨g, 0, none⟩) 1 c, .int .i64 0] 60 ∧ HCom B H num P xs Q w (.returned (.agg #[.slice (some ⟨g, 0, none⟩) 1 c, .int .i64 0])) W') := by
  obtain ⟨v, t, f, rfl, ⟨g, c, hg, rfl, hl⟩, hq, hs, hb1, hk⟩ := h
  have hAl : A < W.heap.size := (Array.getElem?_eq_some_iff.1 hAW).1
  have hbl : Blk w' A #[.slice none 0 0, .int .i64 0] 60 := (hk A (by simp)).trans hAW
  refine ⟨g, c, rfl, hbl, fun W' hW' => ?_⟩
  have hF : Fr [A] w' W' := by rw [hW']; exact ((Fr.refl _ _).set _ (.inl (by simp)) _).set _ (.inl (by simp)) _
  have hbw := hb.size
  refine ⟨by rw [hW']; exact (hbl.set 0 _).set 1 _, _, t, f, rfl, ⟨g, c, by omega, rfl, hl.fr hF (by simp; omega)⟩, hq, (hs.set (p := A) (by simp) hF).mono (fun p hp => by simp [hp]), ((hb.mono hBw).trans hb1).trans (hF.belowOf (by have := hs.le.1; omega) (fun k hk => by simp at hk; omega)), fun p hp => ?_⟩
  have h1 := hP p hp
  exact ((hF.block p (by have := hs.le.2.2 p (by simp [hp]); omega) (by simp; omega)).trans (hk p (by simp [hp]))).trans (hb.block p h1)
set_option maxRecDepth 100000 in
set_option maxHeartbeats 3200000 in
theorem hcommit_any {B H num b off m cap : Nat} {P : List Nat} {w : World} {xs : List (Nat × Tr)} {t0 : Tr} {l : List Chg} {Rel : Nat → Tr → Prop} (h : HS B H P w xs) (hL : LibB B w) (hxl : xs.length ≤ 3) (hx0 : xs[0]? = some (num, t0)) (hnum : num + 1 ≤ 1000000)
    (hlie : LiesV w b off (chC l)) (hm : l.length = m) (hm1 : 1 ≤ m) (hm2 : m ≤ 16) (hok : ∀ c ∈ l, ChgOk c) (hmc : m ≤ cap) (h0 : Rel 0 t0)
    (hset : ∀ base j ck cv, l[j]? = some (ck, cv, false) → ∀ W t, base ≤ W.heap.size → TrG base W t → Rel j t → Calls Tryz.prog 373 #[.pointer t.addr, .string ⟨ck.toArray⟩, .string ⟨cv.toArray⟩] W (RetTr base t.addrs (Rel (j + 1)) W))
    (hwo : ∀ base j ck cv, l[j]? = some (ck, cv, true) → ∀ W t, base ≤ W.heap.size → TrG base W t → Rel j t → Calls Tryz.prog 372 #[.pointer t.addr, .string ⟨ck.toArray⟩] W (RetTr base t.addrs (Rel (j + 1)) W))
    (hend : ∀ t, Rel m t → t.Fit ∧ t.cnt ≤ 10000 ∧ t.fresh.length ≤ (freeK 4096 xs).length) :
    Calls Tryz.prog 168 #[.pointer (some ⟨H, 0, none⟩), .slice (some ⟨b, off, none⟩) m cap] w (HCom B H num P xs (Rel m) w) := by
  obtain ⟨A, hA⟩ : ∃ A, w.heap.size = A := ⟨_, rfl⟩
  obtain ⟨W0, hW0⟩ : ∃ W0, W0 = w.alloc (.cells #[.slice none 0 0, .int .i64 0] 60) := ⟨_, rfl⟩
  have hb0 : Below w.heap.size w W0 := by rw [hW0]; exact (Below.refl _ _).alloc (Nat.le_refl _) _
  have hrp : Blk W0 A #[.slice none 0 0, .int .i64 0] 60 := by rw [hW0, ← hA]; exact Blk.new _ _ _
  have hle := h.le
  have hs0 := h.below (P' := A :: P) hb0 (fun p hp => by
    rcases List.mem_cons.1 hp with q | q
    · exact .inr ⟨by omega, by rw [q]; exact hrp.lt⟩
    · exact .inl q)
  obtain ⟨S, D, R, M, K, c, X, cur, g1, g2, g3, g4, g5, g6, g7, gb⟩ := hs0
  have cc := commit_any g2 g3 (by omega) (by omega) (by omega) (by omega) (by omega) hx0 (by omega) (hlie.below hb0) hm hm1 hm2 hok hmc h0 (fun j ck cv hj W t q1 q2 q3 => hset _ j ck cv hj W t q1.size q2 q3) (fun j ck cv hj W t q1 q2 q3 => hwo _ j ck cv hj W t q1.size q2 q3) hend
  have HCM := Lib.hid (fun e w' (q : RetCommit X S D R M 4096 2 num 0 xs (Rel m) cur W0 e w') => HS.commit g1 g2 g3 g4 g5 g6 g7 gb q)
  have k11 := Blk.cell g1 11
  have HL := Lib.hid hL
  have HB0 := Lib.hid hb0
  have HRP := Lib.hid hrp
  have HA := Lib.hid hA
  have HLE := Lib.hid (show B ≤ A ∧ B ≤ w.heap.size ∧ ∀ p ∈ P, p < w.heap.size from ⟨by omega, hle.1, hle.2.2⟩)
  have HN := Lib.hid hnum
  clear h hL hx0 hlie hm hok h0 hset hwo hend hb0 hrp g1 g2 g3 g4 g5 g6 g7 gb hle hA hnum
  go_enter Tryz.func168, Tryz.ntmps168
  go_upto_region 1 with fail
  rw [← hW0, HA.out]
  clear hW0
  go_wp2_with fail
  refine cc.mono ?_
  intro e V1 hr
  obtain ⟨t, f, rfl, hq, hs1, hb1, hk1⟩ := HCM.out e V1 hr
  have HRP1 := Lib.hid (show Blk V1 A #[.slice none 0 0, .int .i64 0] 60 from (hk1 A (by simp)).trans HRP.out)
  have HK1 := Lib.hid (show ∀ p ∈ P, V1.heap[p]? = w.heap[p]? from fun p hp => (hk1 p (by simp [hp])).trans (HB0.out.block p (HLE.out.2.2 p hp)))
  clear cc hr HCM k11
  have HQ := Lib.hid hq
  have HS1 := Lib.hid hs1
  have HB1 := Lib.hid hb1
  have HBW1 := Lib.hid (show Below B w V1 from (HB0.out.mono HLE.out.2.1).trans hb1)
  have HPL := Lib.hid (show ∀ p ∈ A :: P, p < V1.heap.size from hs1.le.2.2)
  have HSW := Lib.hid (show A < V1.heap.size ∧ w.heap.size < V1.heap.size from by have h1 := hs1.le.2.2 A (by simp); have h2 := HA.out; omega)
  obtain ⟨B1, hB1⟩ : ∃ B1, V1.heap.size = B1 := ⟨_, rfl⟩
  obtain ⟨W1, hW1⟩ : ∃ W1, W1 = V1.alloc (.cells #[.int .i64 ((num : Int) + 1)] 3) := ⟨_, rfl⟩
  have hc1 : Below V1.heap.size V1 W1 := by rw [hW1]; exact (Below.refl _ _).alloc (Nat.le_refl _) _
  have HC1 := Lib.hid hc1
  have hx1 : Blk W1 B1 #[.int .i64 ((num : Int) + 1)] 3 := by rw [hW1, ← hB1]; exact Blk.new _ _ _
  have HBV := Lib.hid (show B ≤ V1.heap.size from by have h1 := HLE.out.2.1; have h2 := HSW.out.2; omega)
  have hlr : LiesV W1 B1 0 ([num + 1].map intv) := ⟨hx1.lt, fun j v hj => by rw [Nat.zero_add, hx1.cell, ← hj]; simp [intv]⟩
  have cr := row_any (word := versionW) (c := 1) (n := 1) ((HL.out.next HBW1.out) W1 (hc1.mono HBV.out)) (by decide) hlr rfl (by omega) (by intro x hx; simp at hx; have := HN.out; omega)
  clear hs1 hb1 hk1 hq hc1 hx1 hlr
  go_wp2_with fail
  rw [← hW1]
  clear hW1 hB1
  refine cr.mono ?_
  rintro e V2 ⟨rfl, hb2⟩
  obtain ⟨rt, hrt⟩ : ∃ rt, rowT versionW [num + 1] = rt := ⟨_, rfl⟩
  rw [hrt]
  have HRT := Lib.hid hrt
  obtain ⟨B2, hB2⟩ : ∃ B2, V2.heap.size = B2 := ⟨_, rfl⟩
  obtain ⟨W2, hW2⟩ : ∃ W2, W2 = V2.alloc (.cells #[.string ⟨rt.toArray⟩] 9) := ⟨_, rfl⟩
  have hc2 : Below V2.heap.size V2 W2 := by rw [hW2]; exact (Below.refl _ _).alloc (Nat.le_refl _) _
  have HC2 := Lib.hid (show Below V1.heap.size V1 W2 from (HC1.out.trans ((hb2.trans (hc2.mono hb2.size)).mono HC1.out.size)))
  have HX2 := Lib.hid (show Blk W2 B2 #[.string ⟨rt.toArray⟩] 9 by rw [hW2, ← hB2]; exact Blk.new _ _ _)
  have HSZ2 := Lib.hid (show V1.heap.size ≤ B2 from by rw [← hB2]; exact (HC1.out.trans (hb2.mono HC1.out.size)).size)
  have cs := fun W => says_ok (w := W) (g := B2) (n := 1) (c := 1)
  clear cr hb2 hc2 hrt
  go_wp2_with fail
  rw [← hW2]
  clear hW2 hB2
  refine (cs W2).mono ?_
  rintro e V3 ⟨rfl, hb3⟩
  have HC3 := Lib.hid (HC2.out.trans (hb3.mono HC2.out.size))
  have hr3 := HRP1.out.below HC3.out
  have r0 := hr3.cell 0
  have r1 := hr3.cell 1
  have u0 := hr3.free 0
  have u1 := hr3.free 1
  have hx3 := HX2.out.below hb3
  have hne : B2 ≠ A := by have h1 := HSZ2.out; have h2 := HSW.out; omega
  obtain ⟨W4, hW4⟩ : ∃ W4, W4 = (V3.setCell ⟨A, 0, none⟩ (.slice (some ⟨B2, 0, none⟩) 1 1)).setCell ⟨A, 1, none⟩ (.int .i64 0) := ⟨_, rfl⟩
  have HF4 := Lib.hid (show Fr [A] V3 W4 by rw [hW4]; exact ((Fr.refl _ _).set _ (.inl (by simp)) _).set _ (.inl (by simp)) _)
  have HR4 := Lib.hid (show Blk W4 A #[.slice (some ⟨B2, 0, none⟩) 1 1, .int .i64 0] 60 by rw [hW4]; exact (hr3.set 0 _).set 1 _)
  have HX4 := Lib.hid (show Blk W4 B2 #[.string ⟨rt.toArray⟩] 9 by rw [hW4]; exact (hx3.setOther _ _ hne).setOther _ _ hne)
  have HS4 := Lib.hid (((HS1.out.below HC3.out (P' := A :: P) (fun p hp => .inl hp)).set (p := A) (by simp) HF4.out).mono (P' := P) (fun p hp => by simp [hp]))
  have HB4 := Lib.hid (show Below B w W4 from (HBW1.out.trans (HC3.out.mono HBV.out)).trans (HF4.out.belowOf (Nat.le_trans HBV.out HC3.out.size) (fun k hk => by simp at hk; rw [hk]; exact HLE.out.1)))
  have HK4 := Lib.hid (show ∀ p ∈ P, W4.heap[p]? = w.heap[p]? from fun p hp => by
    have h1 := HLE.out.2.2 p hp
    have h2 := HA.out
    have h3 := HSW.out.2
    exact ((HF4.out.block p (by have := HC3.out.size; omega) (by simp; omega)).trans (HC3.out.block p (by omega))).trans (HK1.out p hp))
  clear cs hb3 hr3 hx3 hne
  go_wp2
  rw [← hW4]
  have v0 := HR4.out.cell 0
  have v1 := HR4.out.cell 1
  refine bodyPost_ret (v := .agg #[.slice (some ⟨B2, 0, none⟩) 1 1, .int .i64 0]) (by simp [results, Tryz.results168, go_sem, v0, v1]) rfl ⟨_, t, f, rfl, ⟨B2, 1, by have h1 := HSZ2.out; have h2 := HSW.out.2; omega, rfl, HX4.out.lt, fun j v hj => ?_⟩, HQ.out, HS4.out, HB4.out, HK4.out⟩
  rw [HRT.out] at hj
  rw [Nat.zero_add, HX4.out.cell, ← hj]
  simp [str]
end Go.Proofs.YtbkgbkmpalbdpaaGreatDoor

namespace Go.Proofs.YtbkgbkmpalbdpaaGreatDoor
open Go.RowKit Go.Lib

def putL (l : List KV) : List Chg := l.map (fun x => (x.1, x.2, false))
def wordsL (l : List KV) : List (List UInt8) := (l.map (fun x => [x.1, x.2])).flatten
theorem wordsL_get : ∀ (l : List KV) (j : Nat) (x : KV), l[j]? = some x → (wordsL l)[2 * j]? = some x.1 ∧ (wordsL l)[2 * j + 1]? = some x.2
  | [], j, x, h => by simp at h
  | y :: l, 0, x, h => by simp at h; subst h; simp [wordsL]
  | y :: l, j + 1, x, h => by
    obtain ⟨h1, h2⟩ := wordsL_get l j x (by simpa using h)
    have e : wordsL (y :: l) = y.1 :: y.2 :: wordsL l := by simp [wordsL]
    rw [e, show 2 * (j + 1) = 2 * j + 1 + 1 by omega, show 2 * j + 1 + 1 + 1 = (2 * j + 1) + 1 + 1 by omega]
    simp only [List.getElem?_cons_succ]
    exact ⟨h1, h2⟩
theorem chC_snoc (l : List Chg) (c : Chg) : chC (l ++ [c]) = chC l ++ [str c.1, str c.2.1, .bool c.2.2] := by simp [chC]
set_option maxRecDepth 100000 in
set_option maxHeartbeats 3200000 in
theorem put_any {B H num a c m : Nat} {P : List Nat} {w : World} {xs : List (Nat × Tr)} {Q : Tr → Prop} {l : List KV} {nv : Value} {k : Int} (h : HS B H P w xs) (hw : LiesV w a 0 ((wordsL l).map str)) (hm : l.length = m) (hm1 : 1 ≤ m) (hm2 : m ≤ 16)
    (hC : ∀ W P' b c, HS B H P' W xs → Below w.heap.size w W → LiesV W b 0 (chC (putL l)) → m ≤ c → Calls Tryz.prog 168 #[.pointer (some ⟨H, 0, none⟩), .slice (some ⟨b, 0, none⟩) m c] W (HCom B H num P' xs Q W)) :
    Calls Tryz.prog 94 #[.pointer (some ⟨H, 0, none⟩), argV (.slice (some ⟨a, 0, none⟩) (2 * m) c) nv k] w (HCom B H num P xs Q w) := by
  obtain ⟨A, hA⟩ : ∃ A, w.heap.size = A := ⟨_, rfl⟩
  obtain ⟨W0, hW0⟩ : ∃ W0, W0 = (w.alloc (.cells #[.slice (some ⟨a, 0, none⟩) (2 * m) c, nv, .int .i64 k] 131)).alloc (.cells #[.slice none 0 0, .int .i64 0] 60) := ⟨_, rfl⟩
  have hb0 : Below w.heap.size w W0 := by rw [hW0]; exact ((Below.refl _ _).alloc (Nat.le_refl _) _).alloc (by simp) _
  have ha : Blk W0 A #[.slice (some ⟨a, 0, none⟩) (2 * m) c, nv, .int .i64 k] 131 := by rw [hW0, ← hA]; exact (Blk.new w #[.slice (some ⟨a, 0, none⟩) (2 * m) c, nv, .int .i64 k] 131).below ((Below.refl _ _).alloc (Nat.le_refl _) _)
  have hrp : Blk W0 (A + 1) #[.slice none 0 0, .int .i64 0] 60 := by
    have e : (w.alloc (.cells #[.slice (some ⟨a, 0, none⟩) (2 * m) c, nv, .int .i64 k] 131)).heap.size = A + 1 := by simp [hA]
    rw [hW0, ← e]; exact Blk.new _ _ _
  have HSZ := Lib.hid (show W0.heap.size = A + 2 from by rw [hW0]; simp [hA])
  have HH := Lib.hid h
  have HW := Lib.hid hw
  have HM := Lib.hid hm
  have HCC := Lib.hid hC
  have HA := Lib.hid hA
  have HB0 := Lib.hid hb0
  have HAB := Lib.hid ha
  have HRP := Lib.hid hrp
  clear h hw hm hC hA hb0 ha hrp
  go_enter Tryz.func94, Tryz.ntmps94
  unfold argV
  go_upto_region 1 with fail
  rw [← hW0, HA.out]
  clear hW0
  go_wp2
  go_loopw [5, 6] (fun s5 s6 wr => ∃ (j : Nat) (v : Value), j ≤ m ∧ s6 = .int .i64 (2 * (j : Int)) ∧ v = s5 ∧ wr.ownsRow (A + 2) 268 3 v j (chC ((putL l).take j)) ∧ Below (A + 2) W0 wr) (fun _ s6 _ => 2 * m - (intOf s6).toNat)
  case atStart => exact ⟨0, _, Nat.zero_le _, rfl, rfl, World.ownsRow_nil _ _ _ _, Below.refl _ _⟩
  case round =>
    obtain ⟨j, v, hj, rfl, rfl, hrow, hbw⟩ := hrel
    have HRJ := Lib.hid hrow
    have HBJ := Lib.hid hbw
    have HWJ := Lib.hid (HB0.out.trans (hbw.mono (by have := HSZ.out; have := HA.out; omega)))
    have z0 := (Blk.belowLt HAB.out hbw (by omega)).cell 0
    have HSJ := Lib.hid (show A + 2 ≤ wr.heap.size from by have := HSZ.out; have := hbw.size; omega)
    clear hrow hbw
    by_cases hlt : j < m
    · obtain ⟨x, hx⟩ : ∃ x, l[j]? = some x := ⟨l[j]'(by rw [HM.out]; exact hlt), List.getElem?_eq_getElem _⟩
      obtain ⟨g1, g2⟩ := wordsL_get l j x hx
      have k1 := HW.out.2 (2 * j) (str x.1) (by rw [List.getElem?_map, g1]; rfl)
      have k2 := HW.out.2 (2 * j + 1) (str x.2) (by rw [List.getElem?_map, g2]; rfl)
      rw [Nat.zero_add] at k1 k2
      unfold str at k1 k2
      have HK1 := Lib.hid (show wr.cell? ⟨A, 0, none⟩ = some (.slice (some ⟨a, 0, none⟩) (2 * m) c) ∧ A < A + 2 from ⟨z0, by omega⟩)
      have HK2 := Lib.hid (show wr.cell? ⟨a, 2 * j, none⟩ = some (.string ⟨x.1.toArray⟩) ∧ a < A + 2 from ⟨(HWJ.out.cell (p := ⟨a, 2 * j, none⟩) HW.out.1).trans k1, by have h1 := HW.out.1; have h2 := HA.out; omega⟩)
      have HK3 := Lib.hid (show wr.cell? ⟨a, 2 * j + 1, none⟩ = some (.string ⟨x.2.toArray⟩) ∧ a < A + 2 from ⟨(HWJ.out.cell (p := ⟨a, 2 * j + 1, none⟩) HW.out.1).trans k2, by have h1 := HW.out.1; have h2 := HA.out; omega⟩)
      have HTK := Lib.hid (show chC ((putL l).take (j + 1)) = chC ((putL l).take j) ++ [str x.1, str x.2, .bool false] from by
        rw [List.take_add_one, show (putL l)[j]? = some (x.1, x.2, false) from by unfold putL; rw [List.getElem?_map, hx]; rfl]
        exact chC_snoc _ _)
      have HWR := Lib.hid (Below.refl wr.heap.size wr)
      have hjm : 2 * (j : Int) < 2 * (m : Int) := by omega
      have hj0 : (0 : Int) ≤ 2 * (j : Int) := by omega
      have hjm1 : 2 * (j : Int) + 1 < 2 * (m : Int) := by omega
      have hj10 : (0 : Int) ≤ 2 * (j : Int) + 1 := by omega
      have e1 : (2 * (j : Int)).toNat = 2 * j := by omega
      have e2 : (2 * (j : Int) + 1).toNat = 2 * j + 1 := by omega
      have u1 : IntKind.i64.wrap (2 * (j : Int) + 1) = 2 * (j : Int) + 1 := by rw [IntKind.wrap_i64]; omega
      have n1 : 2 * j < 2 * m := by omega
      have n2 : 2 * j + 1 < 2 * m := by omega
      clear hx g1 g2 k1 k2
      go_upto_region 5 with fail
      clear z0
      refine Lex.wp_region_lex (fun w' => Below (A + 2) wr w') (fun _ => true)
        [(0, true), (1, true), (2, true), (3, true), (4, true), (5, true), (6, true), (7, true), (8, true), (9, true), (10, true), (11, true), (12, true), (13, false), (14, false), (15, false)]
        (by kernel_rfl) (by kernel_rfl) (by kernel_rfl) (by kernel_rfl) ⟨rfl, rfl, rfl, Nat.le_refl _, fun _ _ => rfl⟩ ?_
      have hb0 : Below wr.heap.size wr wr.drew := ⟨rfl, rfl, rfl, Nat.le_refl _, fun _ _ => rfl⟩
      have hw0 : Below wr.heap.size wr wr.drew := ⟨HWR.out.os, HWR.out.tape, HWR.out.output, HWR.out.size, HWR.out.block⟩
      generalize hV0 : wr.drew = U0 at *
      clear hV0
      iterate 13 (refine Lex.lex_take (v := ?_) rfl rfl (by rfl) (fun _ hS => ?_) ?_; rotate_left 1; (focus (have g0 := (hS.cell HK1.out.2).trans HK1.out.1; have g1 := (hS.cell HK2.out.2).trans HK2.out.1; have g2 := (hS.cell HK3.out.2).trans HK3.out.1; clear hS; go_simp; with_reducible rfl)); simp only [List.setIfInBounds_toArray, List.set_cons_zero, List.set_cons_succ])
      refine Lex.lex_do rfl ?_
      go_wp2_with fail
      refine Lex.lexQ_normal (fun _ => ((hb0.alloc hb0.size _).mono HSJ.out)) ?_
      refine Lex.lex_do rfl ?_
      refine wpList_app Tryz.underlying266 info_chg rfl (by omega) (by omega) _ rfl _ _ rfl (A + 2) v j (chC ((putL l).take j)) rfl ((row_fr HRJ.out (fr_of_below hb0 []) (by simp)).alloc _) U0.heap.size #[.string ⟨x.1.toArray⟩, .string ⟨x.2.toArray⟩, .bool false] rfl (heap_alloc_new U0 _) rfl (by simp [Value.oneCell']) (by omega) (by have q1 := HSJ.out; have q2 := hb0.size; simp; omega) (U0.heap.size + 1) (by simp) ?_
      intro g3 cap3 w5 hown hgrow hat hlt3
      have HB5w := Lib.hid (show Below (A + 2) wr w5 from ((hb0.alloc hb0.size _).mono HSJ.out).grown hgrow (by have q1 := HSJ.out; have q2 := hb0.size; simp; omega) (fun q hq => ((HRJ.out.lt q hq).1)))
      have HR5 := Lib.hid hown
      clear hown hgrow hat hlt3
      go_wp2_with fail
      refine Lex.lexQ_normal (fun _ => HB5w.out) ?_
      refine Lex.lex_do rfl ?_
      go_wp2_with fail
      refine Lex.lexQ_normal (fun _ => HB5w.out) ?_
      refine Lex.lex_nil ?_
      clear hb0 hw0
      have hj16 : j ≤ 16 := by omega
      go_wp2
      go_roundw
      case rel => exact ⟨j + 1, _, by omega, by go_num, rfl, by rw [HTK.out]; exact HR5.out, HBJ.out.trans HB5w.out⟩
      case measure => simp [intOf]; omega
    · obtain rfl : m = j := by omega
      have hT : (putL l).take m = putL l := by rw [← HM.out, show l.length = (putL l).length from (List.length_map ..).symm]; exact List.take_length
      rw [hT] at HRJ
      obtain ⟨g, cap, rfl, hg, hgl⟩ := World.ownsRow.form HRJ.out (by omega)
      have hll := lies_row2 HRJ.out
      have hcp := (row_caps2 HRJ.out).1
      have hsw : HS B H ((A + 1) :: P) wr xs := HH.out.below HWJ.out (fun p hp => by
        rcases List.mem_cons.1 hp with q | q
        · have := HSJ.out; have := HA.out; exact .inr ⟨by omega, by omega⟩
        · exact .inl q)
      have cc := HCC.out wr ((A + 1) :: P) g cap hsw HWJ.out hll hcp
      have HST := Lib.hid (fun (e : Ending) (w' : World) (q : HCom B H num ((A + 1) :: P) xs Q wr e w') => HCom.store (w := w) HWJ.out HH.out.le.2.2 (by have := HA.out; omega) HH.out.le.1 ((HBJ.out.block (A + 1) (by omega)).trans HRP.out) q)
      clear hT hll hcp hsw
      go_wp2_with fail
      refine cc.mono ?_
      intro e V hc
      obtain ⟨g5, c5, rfl, hbl, hfin⟩ := HST.out e V hc
      have r0 := hbl.cell 0
      have r1 := hbl.cell 1
      have f0 := hbl.free 0
      have f1 := hbl.free 1
      have HFIN := Lib.hid hfin
      obtain ⟨W6, hW6⟩ : ∃ W6, W6 = (V.setCell ⟨A + 1, 0, none⟩ (.slice (some ⟨g5, 0, none⟩) 1 c5)).setCell ⟨A + 1, 1, none⟩ (.int .i64 0) := ⟨_, rfl⟩
      have HF6 := Lib.hid (hfin W6 hW6)
      clear cc hc hbl hfin HST z0
      go_wp2
      rw [← hW6]
      have v0 := HF6.out.1.cell 0
      have v1 := HF6.out.1.cell 1
      refine bodyPost_ret (v := .agg #[.slice (some ⟨g5, 0, none⟩) 1 c5, .int .i64 0]) (by simp [results, Tryz.results94, go_sem, v0, v1]) rfl HF6.out.2
end Go.Proofs.YtbkgbkmpalbdpaaGreatDoor

namespace Go.Proofs.YtbkgbkmpalbdpaaGreatDoor
open Go.RowKit Go.Lib

def dropL (l : List (List UInt8)) : List Chg := l.map (fun x => (x, [], true))
set_option maxRecDepth 100000 in
set_option maxHeartbeats 3200000 in
theorem drop_any {B H num a c m : Nat} {P : List Nat} {w : World} {xs : List (Nat × Tr)} {Q : Tr → Prop} {l : List (List UInt8)} {nv : Value} {k : Int} (h : HS B H P w xs) (hw : LiesV w a 0 (l.map str)) (hm : l.length = m) (hm1 : 1 ≤ m) (hm2 : m ≤ 16)
    (hC : ∀ W P' b c, HS B H P' W xs → Below w.heap.size w W → LiesV W b 0 (chC (dropL l)) → m ≤ c → Calls Tryz.prog 168 #[.pointer (some ⟨H, 0, none⟩), .slice (some ⟨b, 0, none⟩) m c] W (HCom B H num P' xs Q W)) :
    Calls Tryz.prog 95 #[.pointer (some ⟨H, 0, none⟩), argV (.slice (some ⟨a, 0, none⟩) m c) nv k] w (HCom B H num P xs Q w) := by
  obtain ⟨A, hA⟩ : ∃ A, w.heap.size = A := ⟨_, rfl⟩
  obtain ⟨W0, hW0⟩ : ∃ W0, W0 = (w.alloc (.cells #[.slice (some ⟨a, 0, none⟩) m c, nv, .int .i64 k] 131)).alloc (.cells #[.slice none 0 0, .int .i64 0] 60) := ⟨_, rfl⟩
  have hb0 : Below w.heap.size w W0 := by rw [hW0]; exact ((Below.refl _ _).alloc (Nat.le_refl _) _).alloc (by simp) _
  have ha : Blk W0 A #[.slice (some ⟨a, 0, none⟩) m c, nv, .int .i64 k] 131 := by rw [hW0, ← hA]; exact (Blk.new w #[.slice (some ⟨a, 0, none⟩) m c, nv, .int .i64 k] 131).below ((Below.refl _ _).alloc (Nat.le_refl _) _)
  have hrp : Blk W0 (A + 1) #[.slice none 0 0, .int .i64 0] 60 := by
    have e : (w.alloc (.cells #[.slice (some ⟨a, 0, none⟩) m c, nv, .int .i64 k] 131)).heap.size = A + 1 := by simp [hA]
    rw [hW0, ← e]; exact Blk.new _ _ _
  have HSZ := Lib.hid (show W0.heap.size = A + 2 from by rw [hW0]; simp [hA])
  have HH := Lib.hid h
  have HW := Lib.hid hw
  have HM := Lib.hid hm
  have HCC := Lib.hid hC
  have HA := Lib.hid hA
  have HB0 := Lib.hid hb0
  have HAB := Lib.hid ha
  have HRP := Lib.hid hrp
  clear h hw hm hC hA hb0 ha hrp
  go_enter Tryz.func95, Tryz.ntmps95
  unfold argV
  go_upto_region 1 with fail
  rw [← hW0, HA.out]
  clear hW0
  have z00 := HAB.out.cell 0
  go_wp2
  clear z00
  go_loopw [5, 11] (fun s5 s11 wr => ∃ (j : Nat) (v : Value), j ≤ m ∧ s11 = .int .i64 (j : Int) ∧ v = s5 ∧ wr.ownsRow (A + 2) 268 3 v j (chC ((dropL l).take j)) ∧ Below (A + 2) W0 wr) (fun _ s11 _ => m - (intOf s11).toNat)
  case atStart => exact ⟨0, _, Nat.zero_le _, rfl, rfl, World.ownsRow_nil _ _ _ _, Below.refl _ _⟩
  case round =>
    obtain ⟨j, v, hj, rfl, rfl, hrow, hbw⟩ := hrel
    have HRJ := Lib.hid hrow
    have HBJ := Lib.hid hbw
    have HWJ := Lib.hid (HB0.out.trans (hbw.mono (by have := HSZ.out; have := HA.out; omega)))
    have HSJ := Lib.hid (show A + 2 ≤ wr.heap.size from by have := HSZ.out; have := hbw.size; omega)
    clear hrow hbw
    by_cases hlt : j < m
    · obtain ⟨x, hx⟩ : ∃ x, l[j]? = some x := ⟨l[j]'(by rw [HM.out]; exact hlt), List.getElem?_eq_getElem _⟩
      have k1 := HW.out.2 j (str x) (by rw [List.getElem?_map, hx]; rfl)
      rw [Nat.zero_add] at k1
      unfold str at k1
      have kk := (HWJ.out.cell (p := ⟨a, j, none⟩) HW.out.1).trans k1
      have HTK := Lib.hid (show chC ((dropL l).take (j + 1)) = chC ((dropL l).take j) ++ [str x, str [], .bool true] from by
        rw [List.take_add_one, show (dropL l)[j]? = some (x, [], true) from by unfold dropL; rw [List.getElem?_map, hx]; rfl]
        exact chC_snoc _ _)
      have hjm : (j : Int) < (m : Int) := by omega
      have hj0 : (0 : Int) ≤ (j : Int) := by omega
      clear hx k1
      go_wp2_with (at_builtin; refine wpList_app Tryz.underlying266 info_chg rfl (by omega) (by omega) _ rfl _ _ rfl (A + 2) v j (chC ((dropL l).take j)) rfl (HRJ.out.alloc _) wr.heap.size #[.string ⟨x.toArray⟩, .string ⟨#[]⟩, .bool true] rfl (heap_alloc_new wr _) rfl (by simp [Value.oneCell']) (by omega) (by have q1 := HSJ.out; simp; omega) (wr.heap.size + 1) (by simp) ?_)
      intro g3 cap3 w5 hown hgrow hat hlt3
      have HB5w := Lib.hid (show Below (A + 2) wr w5 from (((Below.refl wr.heap.size wr).alloc (Nat.le_refl _) _).mono HSJ.out).grown hgrow (by have q1 := HSJ.out; simp; omega) (fun q hq => ((HRJ.out.lt q hq).1)))
      have HR5 := Lib.hid hown
      clear hown hgrow hat hlt3 kk
      have hj16 : j ≤ 16 := by omega
      go_wp2
      go_roundw
      case rel => exact ⟨j + 1, _, by omega, by go_num, rfl, by rw [HTK.out]; exact HR5.out, HBJ.out.trans HB5w.out⟩
      case measure => simp [intOf]; omega
    · obtain rfl : m = j := by omega
      have hT : (dropL l).take m = dropL l := by rw [← HM.out, show l.length = (dropL l).length from (List.length_map ..).symm]; exact List.take_length
      rw [hT] at HRJ
      obtain ⟨g, cap, rfl, hg, hgl⟩ := World.ownsRow.form HRJ.out (by omega)
      have hll := lies_row2 HRJ.out
      have hcp := (row_caps2 HRJ.out).1
      have hsw : HS B H ((A + 1) :: P) wr xs := HH.out.below HWJ.out (fun p hp => by
        rcases List.mem_cons.1 hp with q | q
        · have := HSJ.out; have := HA.out; exact .inr ⟨by omega, by omega⟩
        · exact .inl q)
      have cc := HCC.out wr ((A + 1) :: P) g cap hsw HWJ.out hll hcp
      have HST := Lib.hid (fun (e : Ending) (w' : World) (q : HCom B H num ((A + 1) :: P) xs Q wr e w') => HCom.store (w := w) HWJ.out HH.out.le.2.2 (by have := HA.out; omega) HH.out.le.1 ((HBJ.out.block (A + 1) (by omega)).trans HRP.out) q)
      clear hT hll hcp hsw
      go_wp2_with fail
      refine cc.mono ?_
      intro e V hc
      obtain ⟨g5, c5, rfl, hbl, hfin⟩ := HST.out e V hc
      have r0 := hbl.cell 0
      have r1 := hbl.cell 1
      have f0 := hbl.free 0
      have f1 := hbl.free 1
      have HFIN := Lib.hid hfin
      obtain ⟨W6, hW6⟩ : ∃ W6, W6 = (V.setCell ⟨A + 1, 0, none⟩ (.slice (some ⟨g5, 0, none⟩) 1 c5)).setCell ⟨A + 1, 1, none⟩ (.int .i64 0) := ⟨_, rfl⟩
      have HF6 := Lib.hid (hfin W6 hW6)
      clear cc hc hbl hfin HST
      go_wp2
      rw [← hW6]
      have v0 := HF6.out.1.cell 0
      have v1 := HF6.out.1.cell 1
      refine bodyPost_ret (v := .agg #[.slice (some ⟨g5, 0, none⟩) 1 c5, .int .i64 0]) (by simp [results, Tryz.results95, go_sem, v0, v1]) rfl HF6.out.2
end Go.Proofs.YtbkgbkmpalbdpaaGreatDoor

namespace Go.Proofs.YtbkgbkmpalbdpaaGreatDoor
open Go.RowKit Go.Lib

def dropW : List UInt8 := [100, 114, 111, 112, 32]
set_option maxRecDepth 100000 in
set_option maxHeartbeats 3200000 in
theorem hdiff_any {B H a c num old v1 v2 : Nat} {P : List Nat} {w : World} {xs : List (Nat × Tr)} {wv : Value} {k : Int} {t1 t2 : Tr} {kd : List UInt8} (h : HS B H P w xs) (hw : LiesV w a 0 [intv v1, intv v2]) (hxl : xs.length ≤ 100)
    (h0 : (xs[0]?).map (·.1) = some num) (h1 : (xs[xs.length - 1]?).map (·.1) = some old) (h2 : old ≤ v1) (h3 : v1 ≤ num) (h4 : old ≤ v2) (h5 : v2 ≤ num) (hn : num < 9007199254740992) (ht1 : (xs[num - v1]?).map (·.2) = some t1) (ht2 : (xs[num - v2]?).map (·.2) = some t2)
    (g1 : ∀ x ∈ t2.flat, ∃ p k l r h b, t1.srch x.1 = .node p k x.2 l r h b) (g2 : dropsOf t2 t1.flat = [(kd, [], true)]) (hlen : t1.flat.length ≤ 100000) (hkl : kd.length ≤ 100) :
    Calls Tryz.prog 98 #[.pointer (some ⟨H, 0, none⟩), argV wv (.slice (some ⟨a, 0, none⟩) 2 c) k] w (fun e w' => ∃ v, e = .returned v ∧ RepOk w.heap.size [dropW ++ kd] w' v ∧ Below w.heap.size w w') := by
  obtain ⟨S, D, R, M, K, c0, X, cur, q1, q2, _⟩ := h
  obtain ⟨A, hA⟩ : ∃ A, w.heap.size = A := ⟨_, rfl⟩
  obtain ⟨W0, hW0⟩ : ∃ W0, W0 = (w.alloc (.cells #[wv, .slice (some ⟨a, 0, none⟩) 2 c, .int .i64 k] 131)).alloc (.cells #[.slice none 0 0, .int .i64 0] 60) := ⟨_, rfl⟩
  have hb0 : Below w.heap.size w W0 := by rw [hW0]; exact ((Below.refl _ _).alloc (Nat.le_refl _) _).alloc (by simp) _
  have ha : Blk W0 A #[wv, .slice (some ⟨a, 0, none⟩) 2 c, .int .i64 k] 131 := by rw [hW0, ← hA]; exact (Blk.new w #[wv, .slice (some ⟨a, 0, none⟩) 2 c, .int .i64 k] 131).below ((Below.refl _ _).alloc (Nat.le_refl _) _)
  have hrp : Blk W0 (A + 1) #[.slice none 0 0, .int .i64 0] 60 := by
    have e : (w.alloc (.cells #[wv, .slice (some ⟨a, 0, none⟩) 2 c, .int .i64 k] 131)).heap.size = A + 1 := by simp [hA]
    rw [hW0, ← e]; exact Blk.new _ _ _
  have tt1 : t1.At w := by
    obtain ⟨x, hx, rfl⟩ := Option.map_eq_some_iff.1 ht1
    exact (q2.trees x (List.mem_of_getElem? hx)).here
  have tt2 : t2.At w := by
    obtain ⟨x, hx, rfl⟩ := Option.map_eq_some_iff.1 ht2
    exact (q2.trees x (List.mem_of_getElem? hx)).here
  have HD := Lib.hid (fun W (g : Below w.heap.size w W) => diff_drop (Blk.below q2.st g) (q2.is.kept.below g) hxl h0 h1 h2 h3 h4 h5 hn ht1 ht2 (tt1.below g) (tt2.below g) g1 g2 hlen)
  have hSs := Blk.lt q2.st
  have HSZ := Lib.hid (show W0.heap.size = A + 2 from by rw [hW0]; simp [hA])
  have HA := Lib.hid hA
  have HB0 := Lib.hid hb0
  have HRP := Lib.hid hrp
  have HKL := Lib.hid hkl
  have HK1 := Lib.hid (show W0.cell? ⟨H, 11, none⟩ = some (.pointer (some ⟨S, 0, none⟩)) ∧ H < W0.heap.size from ⟨(hb0.cell (p := ⟨H, 11, none⟩) (Blk.lt q1)).trans (Blk.cell q1 11), Nat.lt_of_lt_of_le (Blk.lt q1) hb0.size⟩)
  have HK2 := Lib.hid (show W0.cell? ⟨A, 1, none⟩ = some (.slice (some ⟨a, 0, none⟩) 2 c) ∧ A < W0.heap.size from ⟨ha.cell 1, ha.lt⟩)
  have HK3 := Lib.hid (show W0.cell? ⟨a, 0, none⟩ = some (.int .i64 (v1 : Int)) ∧ a < W0.heap.size from ⟨(hb0.cell (p := ⟨a, 0, none⟩) hw.1).trans (hw.2 0 _ rfl), Nat.lt_of_lt_of_le hw.1 hb0.size⟩)
  have HK4 := Lib.hid (show W0.cell? ⟨a, 1, none⟩ = some (.int .i64 (v2 : Int)) ∧ a < W0.heap.size from ⟨(hb0.cell (p := ⟨a, 1, none⟩) hw.1).trans (hw.2 1 _ rfl), Nat.lt_of_lt_of_le hw.1 hb0.size⟩)
  have HWR := Lib.hid (Below.refl W0.heap.size W0)
  clear q1 q2 hw hxl h0 h1 h2 h3 h4 h5 hn ht1 ht2 g1 g2 hlen hkl hA hb0 ha hrp tt1 tt2
  go_enter Tryz.func98, Tryz.ntmps98
  unfold argV
  go_upto_region 1 with fail
  rw [← hW0, HA.out]
  clear hW0
  refine Lex.wp_region_lex (fun w' => Below W0.heap.size W0 w') (fun _ => true)
    [(0, true), (1, true), (2, true), (3, true), (4, true), (5, true), (6, true), (7, true), (8, true), (9, true), (10, true), (11, true), (12, false), (13, true), (14, true), (15, true), (16, false), (17, false)]
    (by kernel_rfl) (by kernel_rfl) (by kernel_rfl) (by kernel_rfl) ⟨rfl, rfl, rfl, Nat.le_refl _, fun _ _ => rfl⟩ ?_
  have hb0 : Below W0.heap.size W0 W0.drew := ⟨rfl, rfl, rfl, Nat.le_refl _, fun _ _ => rfl⟩
  have hw0 : Below W0.heap.size W0 W0.drew := ⟨HWR.out.os, HWR.out.tape, HWR.out.output, HWR.out.size, HWR.out.block⟩
  generalize hV0 : W0.drew = U0 at *
  clear hV0
  iterate 12 (refine Lex.lex_take (v := ?_) rfl rfl (by rfl) (fun _ hS => ?_) ?_; rotate_left 1; (focus (have g0 := (hS.cell HK1.out.2).trans HK1.out.1; have g1 := (hS.cell HK2.out.2).trans HK2.out.1; have g2 := (hS.cell HK3.out.2).trans HK3.out.1; have g3 := (hS.cell HK4.out.2).trans HK4.out.1; clear hS; go_simp; with_reducible rfl)); simp only [List.setIfInBounds_toArray, List.set_cons_zero, List.set_cons_succ])
  refine Lex.lex_do rfl ?_
  have cc := HD.out U0 (HB0.out.trans (hb0.mono HB0.out.size))
  go_wp2_with fail
  refine cc.mono ?_
  rintro e U1 ⟨g, cg, rfl, hcg, hgg, hlg, hn1⟩
  have hb1 := hb0.trans (hn1.mono hb0.size)
  have hw1 := hw0.trans (hn1.mono hw0.size)
  clear cc hb0 hw0
  have HL1 := Lib.hid hlg
  have HB1 := Lib.hid (show Below W0.heap.size W0 U1 from hb1)
  clear hlg hcg hgg
  clear hn1
  go_wp2_with fail
  refine Lex.lexQ_normal (fun _ => hb1) ?_
  iterate 3 (refine Lex.lex_take (v := ?_) rfl rfl (by rfl) (fun _ hS => ?_) ?_; rotate_left 1; (focus (have g0 := (hS.cell HK1.out.2).trans HK1.out.1; have g1 := (hS.cell HK2.out.2).trans HK2.out.1; have g2 := (hS.cell HK3.out.2).trans HK3.out.1; have g3 := (hS.cell HK4.out.2).trans HK4.out.1; clear hS; go_simp; with_reducible rfl)); simp only [List.setIfInBounds_toArray, List.set_cons_zero, List.set_cons_succ])
  refine Lex.lex_do rfl ?_
  go_wp2_with fail
  refine Lex.lexQ_normal (fun _ => hb1) ?_
  refine Lex.lex_do rfl ?_
  go_wp2_with fail
  refine Lex.lexQ_normal (fun _ => hb1) ?_
  refine Lex.lex_nil ?_
  have HSU := Lib.hid (show A + 2 ≤ U1.heap.size from by have h1 := HSZ.out; have h2 := HB1.out.size; omega)
  clear hb1 hw1
  go_wp2
  obtain ⟨line, hline⟩ : ∃ line, dropW ++ kd = line := ⟨_, rfl⟩
  have HLN := Lib.hid hline
  clear hline
  go_loopw [7, 28] (fun s7 s28 wr => ∃ (j : Nat) (v : Value), j ≤ 1 ∧ s28 = .int .i64 (j : Int) ∧ v = s7 ∧ wr.ownsRow U1.heap.size 9 1 v j ([str line].take j) ∧ Below U1.heap.size U1 wr) (fun _ s28 _ => 1 - (intOf s28).toNat)
  case atStart => exact ⟨0, _, Nat.zero_le _, rfl, rfl, World.ownsRow_nil _ _ _ _, Below.refl _ _⟩
  case round =>
    obtain ⟨j, v, hj, rfl, rfl, hrow, hbw⟩ := hrel
    have HRJ := Lib.hid hrow
    have HBJ := Lib.hid hbw
    clear hrow
    by_cases hlt : j < 1
    · obtain rfl : j = 0 := by omega
      have k1 := (hbw.cell (p := ⟨g, 0, none⟩) HL1.out.1).trans (HL1.out.2 0 (str kd) (by simp [chC]))
      have k2 := (hbw.cell (p := ⟨g, 1, none⟩) HL1.out.1).trans (HL1.out.2 1 (str []) (by simp [chC]))
      have k3 := (hbw.cell (p := ⟨g, 2, none⟩) HL1.out.1).trans (HL1.out.2 2 (.bool true) (by simp [chC]))
      unfold str at k1 k2
      obtain ⟨W4, hW4⟩ : ∃ W4, W4 = wr.alloc (.cells #[.string ⟨kd.toArray⟩, .string ⟨([] : List UInt8).toArray⟩, .bool true] 268) := ⟨_, rfl⟩
      have hb4 : Below wr.heap.size wr W4 := by rw [hW4]; exact (Below.refl _ _).alloc (Nat.le_refl _) _
      have hz4 : Blk W4 wr.heap.size #[.string ⟨kd.toArray⟩, .string ⟨([] : List UInt8).toArray⟩, .bool true] 268 := by rw [hW4]; exact Blk.new _ _ _
      have HB4 := Lib.hid (HBJ.out.trans (hb4.mono HBJ.out.size))
      have HR4 := Lib.hid (row_fr HRJ.out (fr_of_below hb4 []) (by simp))
      have hi0 : (0 : Int) < 1 := by decide
      clear hbw
      go_upto_region 6 with fail
      rw [← hW4]
      clear hW4 k1 k2 k3
      have z0 := hz4.cell 0
      have z2 := hz4.cell 2
      have hkl := HKL.out
      have l1 : ¬ 9223372036854775807 < 5 + kd.length := by omega
      clear hz4 hb4
      go_wp2_with (at_builtin; refine wpList_app Tryz.underlying28 info_str rfl (by omega) (by omega) _ rfl _ _ rfl U1.heap.size v 0 ([str line].take 0) rfl (HR4.out.alloc _) W4.heap.size #[.string ((⟨#[100, 114, 111, 112, 32]⟩ : ByteArray) ++ ⟨kd.toArray⟩)] rfl (heap_alloc_new W4 _) rfl (by simp [Value.oneCell']) (by omega) (by have q1 := HB4.out.size; simp; omega) (W4.heap.size + 1) (by simp) ?_)
      intro g3 cap3 w5 hown hgrow hat hlt3
      have HB5 := Lib.hid (show Below U1.heap.size U1 w5 from ((HB4.out.alloc HB4.out.size _).grown hgrow (by have q1 := HB4.out.size; simp; omega) (fun q hq => (HR4.out.lt q hq).1)))
      have HR5 := Lib.hid (show w5.ownsRow U1.heap.size 9 1 (.slice (some ⟨g3, 0, none⟩) 1 cap3) 1 ([str line].take 1) from by
        have e : ([str line].take 0) ++ (#[Value.string ((⟨#[100, 114, 111, 112, 32]⟩ : ByteArray) ++ ⟨kd.toArray⟩)]).toList = [str line].take 1 := by
          rw [← HLN.out]
          simp [str, dropW, ByteArray.mk_append_mk]
        rw [← e]
        exact hown)
      clear hown hgrow hat hlt3 z0 z2
      go_wp2
      go_roundw
      case rel => exact ⟨1, _, by omega, by go_num, rfl, HR5.out, HB5.out⟩
      case measure => simp [intOf]
    · obtain rfl : j = 1 := by omega
      obtain ⟨g3, cap3, rfl, hg3, hgl3⟩ := World.ownsRow.form HRJ.out (by omega)
      have HL3 := Lib.hid (LiesV.ofRow HRJ.out)
      have HG3 := Lib.hid hg3
      have cs := says_ok (w := wr) (g := g3) (n := 1) (c := cap3)
      clear hg3 hgl3 hbw
      go_wp2_with fail
      refine cs.mono ?_
      rintro e V3 ⟨rfl, hb3⟩
      have hr3 := ((HRP.out.below HB1.out).below HBJ.out).below hb3
      have r0 := hr3.cell 0
      have r1 := hr3.cell 1
      have f0 := hr3.free 0
      have f1 := hr3.free 1
      obtain ⟨W6, hW6⟩ : ∃ W6, W6 = (V3.setCell ⟨A + 1, 0, none⟩ (.slice (some ⟨g3, 0, none⟩) 1 cap3)).setCell ⟨A + 1, 1, none⟩ (.int .i64 0) := ⟨_, rfl⟩
      have HF6 := Lib.hid (show Fr [A + 1] V3 W6 by rw [hW6]; exact ((Fr.refl _ _).set _ (.inl (by simp)) _).set _ (.inl (by simp)) _)
      have HR6 := Lib.hid (show Blk W6 (A + 1) #[.slice (some ⟨g3, 0, none⟩) 1 cap3, .int .i64 0] 60 by rw [hW6]; exact (hr3.set 0 _).set 1 _)
      have HL6 := Lib.hid (show LiesV W6 g3 0 ([str line].take 1) from (HL3.out.below hb3).fr HF6.out (by have h1 := HG3.out; have h2 := HSU.out; simp; omega))
      have HB6 := Lib.hid (show Below w.heap.size w W6 from by
        have h1 : Below w.heap.size w V3 := HB0.out.trans (((HB1.out.trans ((HBJ.out.trans (hb3.mono HBJ.out.size)).mono HB1.out.size))).mono HB0.out.size)
        exact h1.trans (HF6.out.belowOf h1.size (fun k hk => by simp at hk; have := HA.out; omega)))
      clear cs hb3 hr3
      go_wp2
      rw [← hW6]
      have u0 := HR6.out.cell 0
      have u1 := HR6.out.cell 1
      refine bodyPost_ret (v := .agg #[.slice (some ⟨g3, 0, none⟩) 1 cap3, .int .i64 0]) (by simp [results, Tryz.results98, go_sem, u0, u1]) rfl ⟨_, rfl, ⟨g3, cap3, by have h1 := HG3.out; have h2 := HSU.out; have h3 := HA.out; omega, rfl, ?_⟩, HB6.out⟩
      have e : [str line].take 1 = [dropW ++ kd].map str := by rw [HLN.out]; rfl
      rw [← e]
      exact HL6.out
set_option maxRecDepth 100000 in
theorem shown_none {w : World} {H D S : Nat} {av : Value} (h : HouseB w H D S) (hav : ∃ x y z, av = .agg #[x, y, z]) : Calls Tryz.prog 78 #[.pointer (some ⟨H, 0, none⟩), av] w (RetW (.agg #[.slice none 0 0, .int .i64 7]) w) := by
  obtain ⟨x, y, z, rfl⟩ := hav
  obtain ⟨A, hA⟩ : ∃ A, w.heap.size = A := ⟨_, rfl⟩
  obtain ⟨W0, hW0⟩ : ∃ W0, W0 = (w.alloc (.cells #[x, y, z] 131)).alloc (.cells #[.slice none 0 0, .int .i64 0] 60) := ⟨_, rfl⟩
  have hb0 : Below w.heap.size w W0 := by rw [hW0]; exact ((Below.refl _ _).alloc (Nat.le_refl _) _).alloc (by simp) _
  have hrp : Blk W0 (A + 1) #[.slice none 0 0, .int .i64 0] 60 := by
    have e : (w.alloc (.cells #[x, y, z] 131)).heap.size = A + 1 := by simp [hA]
    rw [hW0, ← e]; exact Blk.new _ _ _
  have c2 := (hb0.cell (p := ⟨H, 2, none⟩) (Blk.lt h)).trans (Blk.cell h 2)
  have r0 := hrp.cell 0
  have r1 := hrp.cell 1
  have f0 := hrp.free 0
  have f1 := hrp.free 1
  obtain ⟨W6, hW6⟩ : ∃ W6, W6 = (W0.setCell ⟨A + 1, 0, none⟩ (.slice none 0 0)).setCell ⟨A + 1, 1, none⟩ (.int .i64 7) := ⟨_, rfl⟩
  have HB6 := Lib.hid (show Below w.heap.size w W6 from by
    rw [hW6]; exact (hb0.setCell (p := ⟨A + 1, 0, none⟩) (by show w.heap.size ≤ A + 1; omega) _).setCell (p := ⟨A + 1, 1, none⟩) (by show w.heap.size ≤ A + 1; omega) _)
  have HR6 := Lib.hid (show Blk W6 (A + 1) #[.slice none 0 0, .int .i64 7] 60 by rw [hW6]; exact (hrp.set 0 _).set 1 _)
  have HA := Lib.hid hA
  clear h hb0 hrp hA
  go_enter Tryz.func78, Tryz.ntmps78
  go_upto_region 1 with fail
  rw [← hW0, HA.out]
  clear hW0
  go_wp2
  rw [← hW6]
  have u0 := HR6.out.cell 0
  have u1 := HR6.out.cell 1
  refine bodyPost_ret (v := .agg #[.slice none 0 0, .int .i64 7]) (by simp [results, Tryz.results78, go_sem, u0, u1]) rfl ⟨rfl, HB6.out⟩
end Go.Proofs.YtbkgbkmpalbdpaaGreatDoor

namespace Go.Proofs.YtbkgbkmpalbdpaaGreatDoor
open Go.RowKit Go.Lib

theorem trim_one {c : UInt8} (h : c ≠ 45) : trimPrefix [c] [45] = [c] := by
  simp [trimPrefix, hasPrefix, Ne.symm h]
set_option maxRecDepth 100000 in
set_option maxHeartbeats 800000 in
theorem number_not {w : World} {c : UInt8} (h : c ≠ 45) (hd : c.toNat < 48 ∨ 57 < c.toNat) : Calls Tryz.prog 180 #[.string ⟨#[c]⟩] w (RetV (.tuple #[.int .i64 0, .bool false]) w) := by
  have ct := trimPrefix_ok (w := w) (l := [c]) (p := [45])
  rw [trim_one h] at ct
  have HD := Lib.hid hd
  clear h hd
  go_enter Tryz.func180, Tryz.ntmps180
  go_wp2_with fail
  refine ct.mono ?_
  rintro e V1 ⟨rfl, rfl⟩
  clear ct
  go_wp2
  go_loopw [12] (fun s12 wr => s12 = .int .i64 0 ∧ wr = w) (fun _ _ => 0)
  case atStart => exact ⟨rfl, rfl⟩
  case round =>
    obtain ⟨rfl, rfl⟩ := hrel
    rcases HD.out with h | h
    · have d1 : (((⟨#[c]⟩ : ByteArray)[0]'(Nat.zero_lt_one)).toNat : Int) < 48 := by show (c.toNat : Int) < 48; omega
      go_wp2
      refine bodyPost_ret (v := .tuple #[.int .i64 0, .bool false]) (by simp [results, Tryz.results180, go_sem]) rfl ⟨rfl, rfl⟩
    · have d1 : ¬ (((⟨#[c]⟩ : ByteArray)[0]'(Nat.zero_lt_one)).toNat : Int) < 48 := by show ¬ (c.toNat : Int) < 48; omega
      have d2 : (57 : Int) < (((⟨#[c]⟩ : ByteArray)[0]'(Nat.zero_lt_one)).toNat : Int) := by show (57 : Int) < (c.toNat : Int); omega
      go_wp2
      refine bodyPost_ret (v := .tuple #[.int .i64 0, .bool false]) (by simp [results, Tryz.results180, go_sem]) rfl ⟨rfl, rfl⟩
set_option maxRecDepth 100000 in
set_option maxHeartbeats 1600000 in
theorem number_dig {w : World} {c : UInt8} {v : Int} (hL : LibOk w) (h1 : 49 ≤ c.toNat) (h2 : c.toNat ≤ 57) (hv : G.atoiV [c] = v) : Calls Tryz.prog 180 #[.string ⟨#[c]⟩] w (RetW (.tuple #[.int .i64 v, .bool true]) w) := by
  have hc : c ≠ 45 := fun e => by rw [e] at h1; exact absurd h1 (by decide)
  have ct := trimPrefix_ok (w := w) (l := [c]) (p := [45])
  rw [trim_one hc] at ct
  have CA := Lib.hid (show Calls Tryz.prog 192 #[.string ⟨#[c]⟩] w (fun e w' => ∃ ev, e = .returned (.tuple #[.int .i64 v, ev]) ∧ Below w.heap.size w w') from by
    have q := atoiOk hL w (Below.refl _ _) [c] (by simp)
    rw [hv] at q
    exact q)
  have HD := Lib.hid (And.intro h1 h2)
  clear h1 h2 hv hL hc
  go_enter Tryz.func180, Tryz.ntmps180
  go_wp2_with fail
  refine ct.mono ?_
  rintro e V1 ⟨rfl, rfl⟩
  clear ct
  go_wp2
  go_loopw [12] (fun s12 wr => ∃ j : Nat, j ≤ 1 ∧ s12 = .int .i64 (j : Int) ∧ wr = w) (fun s12 _ => 1 - (intOf s12).toNat)
  case atStart => exact ⟨0, by omega, rfl, rfl⟩
  case round =>
    obtain ⟨j, hj, rfl, rfl⟩ := hrel
    have d1 : ¬ (((⟨#[c]⟩ : ByteArray)[0]'(Nat.zero_lt_one)).toNat : Int) < 48 := by have := HD.out; show ¬ (c.toNat : Int) < 48; omega
    have d2 : ¬ (57 : Int) < (((⟨#[c]⟩ : ByteArray)[0]'(Nat.zero_lt_one)).toNat : Int) := by have := HD.out; show ¬ (57 : Int) < (c.toNat : Int); omega
    have d3 : ¬ (((⟨#[c]⟩ : ByteArray)[0]'(Nat.zero_lt_one)).toNat : Int) = 48 := by have := HD.out; show ¬ (c.toNat : Int) = 48; omega
    rcases Nat.lt_or_ge j 1 with hlt | hge
    · obtain rfl : j = 0 := by omega
      go_wp2
      go_roundw
      case rel => exact ⟨1, by omega, rfl, by trivial⟩
      case measure => simp [intOf]
    · obtain rfl : j = 1 := by omega
      have cc := CA.out
      go_wp2_with fail
      refine cc.mono ?_
      rintro e V2 ⟨ev, rfl, hb⟩
      have HB := Lib.hid hb
      clear cc hb
      go_wp2
      refine bodyPost_ret (v := .tuple #[.int .i64 v, .bool true]) (by simp [results, Tryz.results180, go_sem]) rfl ⟨rfl, HB.out⟩
end Go.Proofs.YtbkgbkmpalbdpaaGreatDoor

namespace Go.Proofs.YtbkgbkmpalbdpaaGreatDoor
open Go.RowKit Go.Lib

theorem RetTr.mono {base : Nat} {A : List Nat} {Q Q' : Tr → Prop} {w w' : World} {e : Ending} (h : RetTr base A Q w e w') (hq : ∀ t, TrG base w' t → Q t → Q' t) : RetTr base A Q' w e w' := by
  obtain ⟨t, h1, h2, h3, h4, h5⟩ := h
  exact ⟨t, h1, h2, h3, hq t h2 h4, h5⟩
theorem unf_len : ∀ (t : Tr) (K : List Int), K.length ≤ (unf t K).length + t.addrs.length
  | .nil, K => by simp [unf]
  | .node p k v l r h b, K => by
    unfold unf
    split
    · have h1 := unf_len r (unf l (K.erase (b : Int)))
      have h2 := unf_len l (K.erase (b : Int))
      have h3 : K.length ≤ (K.erase (b : Int)).length + 1 := by rw [List.length_erase]; split <;> omega
      simp only [Tr.addrs, List.length_cons, List.length_append]
      omega
    · omega
theorem free_len : ∀ (xs : List (Nat × Tr)) (K : List Int) (m : Nat), (∀ x ∈ xs, x.2.addrs.length ≤ m) → K.length ≤ (xs.foldl (fun K x => unf x.2 K) K).length + xs.length * m
  | [], K, m, _ => by simp
  | x :: xs, K, m, h => by
    have h1 := free_len xs (unf x.2 K) m (fun y hy => h y (by simp [hy]))
    have h2 := unf_len x.2 K
    have h3 := h x (by simp)
    simp only [List.foldl_cons, List.length_cons, Nat.succ_mul]
    omega
theorem fresh_adr : ∀ t : Tr, t.fresh.length ≤ t.addrs.length
  | .nil => by simp [Tr.fresh]
  | .node p k v l r h b => by
    have h1 := fresh_adr l
    have h2 := fresh_adr r
    unfold Tr.fresh
    simp only [Tr.addrs]
    split
    · simp
    · simp; omega
theorem room_ok {xs : List (Nat × Tr)} {t : Tr} (h : ∀ x ∈ xs, x.2.addrs.length ≤ 2) (hx : xs.length ≤ 3) (ht : t.addrs.length ≤ 2) : t.fresh.length ≤ (freeK 4096 xs).length := by
  have h1 := free_len xs (numsTo 4096) 2 h
  rw [numsTo_len] at h1
  have h2 := fresh_adr t
  unfold freeK
  omega
theorem HS.fit {B H : Nat} {P : List Nat} {w : World} {xs : List (Nat × Tr)} (h : HS B H P w xs) : ∀ x ∈ xs, x.2.Fit := by
  obtain ⟨S, D, R, M, K, c, X, cur, h1, h2, _⟩ := h
  exact fun x hx => (h2.trees x hx).fit
/-- The trees of the law's versions. -/
def T1 (t : Tr) : Prop := ∃ q q2 b b2, t = .node q [97] [49] .nil (.node q2 [98] [50] .nil .nil 1 b2) 2 b
def T2 (t : Tr) : Prop := ∃ q2 b2, t = .node q2 [98] [50] .nil .nil 1 b2
theorem T1.asg {t : Tr} (f : Nat → Option Nat) (h : T1 t) : T1 (t.asg f) := by
  obtain ⟨q, q2, b, b2, rfl⟩ := h
  exact ⟨q, q2, _, _, rfl⟩
theorem T2.asg {t : Tr} (f : Nat → Option Nat) (h : T2 t) : T2 (t.asg f) := by
  obtain ⟨q2, b2, rfl⟩ := h
  exact ⟨q2, _, rfl⟩
theorem T1.two {t : Tr} (h : T1 t) : t.addrs.length = 2 := by
  obtain ⟨q, q2, b, b2, rfl⟩ := h
  rfl
def putR : Nat → Tr → Prop
  | 0, t => t = .nil
  | 1, t => ∃ q, t = .node q [97] [49] .nil .nil 1 0
  | _, t => ∃ q q2, t = .node q [97] [49] .nil (.node q2 [98] [50] .nil .nil 1 0) 2 0
theorem HCom.imp {B H num : Nat} {P : List Nat} {xs : List (Nat × Tr)} {Q Q' : Tr → Prop} {w w' : World} {e : Ending} (h : HCom B H num P xs Q w e w') (hq : ∀ t, Q t → Q' t) : HCom B H num P xs Q' w e w' := by
  obtain ⟨v, t, f, h1, h2, h3, h4⟩ := h
  exact ⟨v, t, f, h1, h2, hq t h3, h4⟩
def abL : List KV := [([97], [49]), ([98], [50])]
theorem put_house {B H a c : Nat} {P : List Nat} {w : World} {nv : Value} {k : Int} (h : HS B H P w [(0, .nil)]) (hL : LibB B w) (hw : LiesV w a 0 ((wordsL abL).map str)) :
    Calls Tryz.prog 94 #[.pointer (some ⟨H, 0, none⟩), argV (.slice (some ⟨a, 0, none⟩) 4 c) nv k] w (HCom B H 0 P [(0, .nil)] T1 w) := by
  have hB := h.le.1
  refine (put_any (m := 2) (Q := putR 2) (l := abL) h hw rfl (by omega) (by omega) (fun W P' b c hs hb hl hc => ?_)).mono fun e w' q => q.imp (fun t ⟨q, q2, e⟩ => ⟨q, q2, 0, 0, e⟩)
  refine hcommit_any (Rel := putR) (t0 := .nil) hs (hL.next (hb.mono hB)) (by simp) rfl (by omega) hl rfl (by omega) (by omega) (fun x hx => ?_) hc rfl (fun base j ck cv hj V t hV hg hr => ?_) (fun base j ck cv hj => ?_) (fun t ht => ?_)
  · simp only [putL, abL, List.map_cons, List.map_nil, List.mem_cons, List.not_mem_nil, or_false] at hx
    rcases hx with rfl | rfl <;> simp [ChgOk]
  · rcases j with _ | _ | j
    · simp only [putL, abL, List.map_cons, List.map_nil, List.getElem?_cons_zero, Option.some.injEq, Prod.mk.injEq] at hj
      obtain ⟨rfl, rfl, _⟩ := hj
      obtain rfl : t = .nil := hr
      exact set_nil hV
    · simp only [putL, abL, List.map_cons, List.map_nil, List.getElem?_cons_succ, List.getElem?_cons_zero, Option.some.injEq, Prod.mk.injEq, Nat.zero_add] at hj
      obtain ⟨rfl, rfl, _⟩ := hj
      obtain ⟨q, rfl⟩ : ∃ q, t = .node q [97] [49] .nil .nil 1 0 := hr
      refine (set_right (Q := fun t => ∃ q, t = .node q [98] [50] .nil .nil 1 0) hg (by decide) (by decide) hV (by simp [Tr.cnt]) (fun Z hZ => set_nil (Nat.le_trans hV hZ.size)) (fun t ⟨q, e⟩ => by subst e; simp [Tr.cnt, Tr.hgt])).mono fun e w' g => g.mono fun t ht ⟨q1, hh, bb, r', ⟨q2, e2⟩, e1⟩ => ?_
      subst e2 e1
      have h1 : hh = 2 := by have := ht.ht.1; simpa [Tr.hgt] using this
      have h2 : bb = 0 := by
        rcases ht.mix with m | m
        · exact m.1
        · exact absurd m.2.2.2.1 (by omega)
      subst h1 h2
      exact ⟨q1, q2, rfl⟩
    · simp [putL, abL] at hj
  · rcases j with _ | _ | j <;> simp [putL, abL] at hj
  · obtain ⟨q, q2, rfl⟩ : ∃ q q2, t = .node q [97] [49] .nil (.node q2 [98] [50] .nil .nil 1 0) 2 0 := ht
    exact ⟨by simp [Tr.Fit], by simp [Tr.cnt], room_ok (fun x hx => by simp at hx; subst hx; simp [Tr.addrs]) (by simp) (by simp [Tr.addrs])⟩
def dropR (r t1 : Tr) : Nat → Tr → Prop
  | 0, t => t = t1
  | _, t => t = r
theorem drop_house {B H a c : Nat} {P : List Nat} {w : World} {t1 : Tr} {nv : Value} {k : Int} (h : HS B H P w [(1, t1), (0, .nil)]) (ht : T1 t1) (hL : LibB B w) (hw : LiesV w a 0 (([[97]] : List (List UInt8)).map str)) :
    Calls Tryz.prog 95 #[.pointer (some ⟨H, 0, none⟩), argV (.slice (some ⟨a, 0, none⟩) 1 c) nv k] w (HCom B H 1 P [(1, t1), (0, .nil)] T2 w) := by
  have hB := h.le.1
  have hfit := h.fit (1, t1) (by simp)
  have h2 := ht.two
  obtain ⟨q, q2, b, b2, rfl⟩ := ht
  refine (drop_any (m := 1) (Q := dropR (.node q2 [98] [50] .nil .nil 1 b2) (.node q [97] [49] .nil (.node q2 [98] [50] .nil .nil 1 b2) 2 b) 1) (l := [[97]]) h hw rfl (by omega) (by omega) (fun W P' b' c hs hb hl hc => ?_)).mono fun e w' g => g.imp (fun t (e : t = _) => ⟨q2, b2, e⟩)
  refine hcommit_any (Rel := dropR (.node q2 [98] [50] .nil .nil 1 b2) (.node q [97] [49] .nil (.node q2 [98] [50] .nil .nil 1 b2) 2 b)) (t0 := .node q [97] [49] .nil (.node q2 [98] [50] .nil .nil 1 b2) 2 b) hs (hL.next (hb.mono hB)) (by simp) rfl (by omega) hl rfl (by omega) (by omega) (fun x hx => ?_) hc rfl (fun base j ck cv hj => ?_) (fun base j ck cv hj V t hV hg hr => ?_) (fun t ht => ?_)
  · simp only [dropL, List.map_cons, List.map_nil, List.mem_cons, List.not_mem_nil, or_false] at hx
    subst hx
    simp [ChgOk]
  · rcases j with _ | j <;> simp [dropL] at hj
  · rcases j with _ | j
    · simp only [dropL, List.map_cons, List.map_nil, List.getElem?_cons_zero, Option.some.injEq, Prod.mk.injEq] at hj
      obtain ⟨rfl, rfl, _⟩ := hj
      obtain rfl : t = .node q [97] [49] .nil (.node q2 [98] [50] .nil .nil 1 b2) 2 b := hr
      exact without_left hg
    · simp [dropL] at hj
  · obtain rfl : t = .node q2 [98] [50] .nil .nil 1 b2 := ht
    exact ⟨hfit.2.2.2.2.2, by simp [Tr.cnt], room_ok (fun x hx => by
      simp at hx
      rcases hx with rfl | rfl
      · simp [Tr.addrs]
      · simp [Tr.addrs]) (by simp) (by simp [Tr.addrs])⟩
theorem diff_house {B H a c : Nat} {P : List Nat} {w : World} {t1 t2 : Tr} {wv : Value} {k : Int} (h : HS B H P w [(2, t2), (1, t1), (0, .nil)]) (h1 : T1 t1) (h2 : T2 t2) (hw : LiesV w a 0 [intv 1, intv 2]) :
    Calls Tryz.prog 98 #[.pointer (some ⟨H, 0, none⟩), argV wv (.slice (some ⟨a, 0, none⟩) 2 c) k] w (fun e w' => ∃ v, e = .returned v ∧ RepOk w.heap.size [dropW ++ [97]] w' v ∧ Below w.heap.size w w') := by
  obtain ⟨q, q2, b, b2, rfl⟩ := h1
  obtain ⟨q3, b3, rfl⟩ := h2
  have e1 : Op.bytesLess [98] [97] = false := by decide
  have e2 : Op.bytesLess [97] [98] = true := by decide
  exact hdiff_any (num := 2) (old := 0) (v1 := 1) (v2 := 2) (kd := [97]) h hw (by simp) rfl rfl (by omega) (by omega) (by omega) (by omega) (by omega) rfl rfl
    (fun x hx => by
      simp [Tr.flat] at hx
      subst hx
      exact ⟨q2, _, _, _, _, _, by simp [Tr.srch, e1]; exact ⟨rfl, rfl, rfl, rfl, rfl⟩⟩)
    (by simp [Tr.flat, dropsOf, Tr.srch, Tr.addr]) (by simp [Tr.flat]) (by simp)
end Go.Proofs.YtbkgbkmpalbdpaaGreatDoor
