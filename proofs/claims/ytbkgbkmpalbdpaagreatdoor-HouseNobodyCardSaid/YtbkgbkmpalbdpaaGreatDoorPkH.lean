/- Texts H I J in one. -/
import Derived.Test.YtbkgbkmpalbdpaaGreatDoorPkB
import Derived.Test.YtbkgbkmpalbdpaaGreatDoorPkLex
namespace Go.Proofs.YtbkgbkmpalbdpaaGreatDoor.G
open Go.RowKit

/-- The value v is a wide integer, z, of at most N limbs. -/
def IsZ (w : World) (v : Value) (z : Int) (N : Nat) : Prop :=
  ∃ (neg : Bool) (mag : Value) (m : Int), v = .agg #[.bool neg, mag] ∧ Mag w mag m N ∧ z = (if neg then -m else m) ∧ (neg = true → 0 < m)
theorem IsZ.below {w w' : World} {v : Value} {z : Int} {N : Nat} (h : IsZ w v z N) (hb : Below w.heap.size w w') : IsZ w' v z N := by
  obtain ⟨neg, mag, m, h1, h2, h3⟩ := h
  exact ⟨neg, mag, m, h1, h2.below hb, h3⟩
theorem IsZ.drewN {w : World} {v : Value} {z : Int} {N : Nat} (h : IsZ w v z N) (k : Nat) : IsZ (w.drewN k) v z N := h
theorem IsZ.more {w : World} {v : Value} {z : Int} {N M : Nat} (h : IsZ w v z N) (hm : N ≤ M) : IsZ w v z M := by
  obtain ⟨neg, mag, m, h1, h2, h3⟩ := h
  exact ⟨neg, mag, m, h1, h2.more hm, h3⟩
/-- A block without limbs may be written. -/
theorem Mag.put {w w' : World} {v : Value} {z : Int} {N : Nat} (h : Mag w v z N) {R : Nat} {cs : Array Value} {t : Nat} {fr : Nat × Nat} (hR : w.heap[R]? = some (.cells cs t fr)) (ho : ∀ (off : Nat) (x : Int), cs[off]? ≠ some (.int .u32 x)) (hs : w.heap.size ≤ w'.heap.size) (hk : ∀ k, k ≠ R → w'.heap[k]? = w.heap[k]?) : Mag w' v z N := by
  obtain ⟨A, n, c, xs, h1, h2, h3, h4, h5, h6, h7⟩ := h
  refine ⟨A, n, c, xs, h1, h2, h3, h4, h5, ?_, h7⟩
  rcases h6 with h6 | ⟨b, off, hA, hb, hc⟩
  · exact .inl h6
  · cases xs with
    | nil => exact .inl rfl
    | cons x xs =>
      have h0 := hc 0 (.int .u32 x) (by simp)
      have hne : b ≠ R := by
        intro e
        subst e
        refine ho (off + 0) x ?_
        have h1 : w.cell? ⟨b, off + 0, none⟩ = cs[off + 0]? := by simp [World.cell?, hR]
        rw [← h1]; exact h0
      exact .inr ⟨b, off, hA, by omega, fun j u hj => (World.cell?_of_block (hk b hne)).trans (hc j u hj)⟩
theorem IsZ.put {w w' : World} {v : Value} {z : Int} {N : Nat} (h : IsZ w v z N) {R : Nat} {cs : Array Value} {t : Nat} {fr : Nat × Nat} (hR : w.heap[R]? = some (.cells cs t fr)) (ho : ∀ (off : Nat) (x : Int), cs[off]? ≠ some (.int .u32 x)) (hs : w.heap.size ≤ w'.heap.size) (hk : ∀ k, k ≠ R → w'.heap[k]? = w.heap[k]?) : IsZ w' v z N := by
  obtain ⟨neg, mag, m, h1, h2, h3⟩ := h
  exact ⟨neg, mag, m, h1, h2.put hR ho hs hk, h3⟩
theorem zcell_no (off : Nat) (x : Int) : (#[.bool false, .slice none 0 0] : Array Value)[off]? ≠ some (.int .u32 x) := by
  intro h
  rcases off with _ | _ | off <;> simp at h
theorem IsZ.stored {w : World} {v : Value} {z : Int} {N R : Nat} {u0 u1 : Value} {fr : Nat × Nat} (h : IsZ w v z N) (hR : w.heap[R]? = some (.cells #[.bool false, .slice none 0 0] 348 fr)) : IsZ ((w.setCell ⟨R, 0, none⟩ u0).setCell ⟨R, 1, none⟩ u1) v z N :=
  h.put hR zcell_no (by simp [World.setCell]) fun k hk => by rw [Below.heap_setCell _ _ _ _ (by simpa using hk), Below.heap_setCell _ _ _ _ (by simpa using hk)]
theorem heap_alloc_new' (w : World) (o : Obj) {n : Nat} (h : n = w.heap.size) : (w.alloc o).heap[n]? = some o := by rw [h]; exact heap_alloc_new w o
def RetZ (z : Int) (N : Nat) (w : World) (e : Ending) (w' : World) : Prop := ∃ v, e = .returned v ∧ IsZ w' v z N ∧ Below w.heap.size w w'

/-- A slice of a size, its length. -/
theorem Mag.open' {w : World} {v : Value} {z : Int} {N : Nat} (h : Mag w v z N) : ∃ (A : Option Addr) (n c : Nat), v = .slice A n c ∧ n ≤ N ∧ (n = 0 ↔ z = 0) := by
  obtain ⟨A, n, c, xs, rfl, h2, h3, h4, h5, h6, h7, h8, rfl, h10⟩ := h
  refine ⟨A, n, c, rfl, h10, ?_⟩
  rw [DG.dv_zero_nil b32_one h7 h8, ← h2]
  exact List.length_eq_zero_iff

set_option maxHeartbeats 400000 in
theorem made_any (neg : Bool) (v : Value) (m : Int) (N : Nat) (w : World) (hv : Mag w v m N) (_hN : N ≤ 10000) :
    Calls Tryz.prog 337 #[.bool neg, v] w (RetZ (if neg then -m else m) N w) := by
  have hnn := hv.nonneg
  obtain ⟨A, n, c, rfl, hn, hz⟩ := hv.open'
  have HV := Lib.hid hv
  have HNN := Lib.hid hnn
  have HZ := Lib.hid hz
  clear hv hz hnn
  cases neg with
  | false =>
    go_enter Tryz.func337, Tryz.ntmps337
    go_wp2
    refine bodyPost_ret (v := .agg #[.bool false, .slice A n c]) (by simp [results, Tryz.results337, go_sem]) rfl ⟨_, rfl, ⟨false, _, m, rfl, HV.out.below ?_, rfl, fun h => by cases h⟩, ?_⟩
    · exact (Below.refl _ _).alloc (Nat.le_refl _) _
    · exact (Below.refl _ _).alloc (Nat.le_refl _) _
  | true =>
    by_cases h0 : n = 0
    · have hm : m = 0 := HZ.out.1 h0
      subst h0
      have e1 : ((0 : Nat) : Int) = 0 := rfl
      go_enter Tryz.func337, Tryz.ntmps337
      go_wp2
      refine bodyPost_ret (v := .agg #[.bool false, .slice A 0 c]) (by simp [results, Tryz.results337, go_sem]) rfl ⟨_, rfl, ⟨false, _, m, rfl, HV.out.below ?_, by rw [hm]; rfl, fun h => by cases h⟩, ?_⟩
      · exact (Below.refl _ _).alloc (Nat.le_refl _) _
      · exact (Below.refl _ _).alloc (Nat.le_refl _) _
    · have hm : m ≠ 0 := fun e => h0 (HZ.out.2 e)
      have hp : 0 < m := by have := HNN.out; omega
      have hn0 : 0 < n := by omega
      have HP := Lib.hid hp
      clear h0 hm hp
      go_enter Tryz.func337, Tryz.ntmps337
      go_wp2
      refine bodyPost_ret (v := .agg #[.bool true, .slice A n c]) (by simp [results, Tryz.results337, go_sem]) rfl ⟨_, rfl, ⟨true, _, m, rfl, HV.out.below ?_, rfl, fun _ => HP.out⟩, ?_⟩
      · exact (Below.refl _ _).alloc (Nat.le_refl _) _
      · exact (Below.refl _ _).alloc (Nat.le_refl _) _

theorem IsZ.open' {w : World} {v : Value} {z : Int} {N : Nat} (h : IsZ w v z N) : ∃ (neg : Bool) (A : Option Addr) (n c : Nat) (m : Int), v = .agg #[.bool neg, .slice A n c] ∧ Mag w (.slice A n c) m N ∧ z = (if neg then -m else m) ∧ (neg = true → 0 < m) ∧ n ≤ N ∧ (n = 0 ↔ m = 0) := by
  obtain ⟨neg, mag, m, rfl, hm, h3, h4⟩ := h
  obtain ⟨A, n, c, rfl, h5, h6⟩ := hm.open'
  exact ⟨neg, A, n, c, m, rfl, hm, h3, h4, h5, h6⟩

set_option maxRecDepth 100000 in
set_option maxHeartbeats 800000 in
theorem neg_any (v : Value) (z : Int) (N : Nat) (w : World) (hv : IsZ w v z N) (hN : N ≤ 10000) :
    Calls Tryz.prog 331 #[v] w (RetZ (-z) N w) := by
  obtain ⟨neg, A, n, c, m, rfl, hm, hz, hpos, hn, hnz⟩ := hv.open'
  have h79 : ∀ W, Below w.heap.size w W → Calls Tryz.prog 337 #[.bool (!neg), .slice A n c] W (RetZ (-z) N W) := fun W hb => by
    have := made_any (!neg) (.slice A n c) m N W (hm.below hb) hN
    have hzz : (if (!neg) = true then -m else m) = -z := by
      cases neg with
      | false => simp at hz ⊢; omega
      | true => simp at hz ⊢; omega
    rwa [hzz] at this
  have hB : ∀ x : Bool, Below w.heap.size w ((w.alloc (.cells #[.bool x, .slice A n c] 348)).alloc (.cells #[.bool false, .slice none 0 0] 348)) := fun x => ((Below.refl _ _).alloc (Nat.le_refl _) _).alloc (by simp) _
  have h80 := h79 _ (hB neg)
  have hBn := hB neg
  clear hv hz hpos hm hnz h79 hB
  cases neg with
  | false =>
    go_enter Tryz.func331, Tryz.ntmps331
    go_wp2_with fail
    refine h80.mono ?_
    rintro e w1 ⟨v1, rfl, hz1, hb1⟩
    obtain ⟨neg1, A1, n1, c1, m1, rfl, hm1, hzz, hpos1, _, _⟩ := hz1.open'
    have hR := (hb1.block (w.heap.size + 1) (by simp)).trans (heap_alloc_new' (w.alloc (.cells #[.bool false, .slice A n c] 348)) (.cells #[.bool false, .slice none 0 0] 348) (by simp))
    have HST := Lib.hid (hz1.stored (u0 := .bool neg1) (u1 := .slice A1 n1 c1) hR)
    have k0 := hb1.cell (p := ⟨w.heap.size + 1, 0, none⟩) (by simp)
    have k1 := hb1.cell (p := ⟨w.heap.size + 1, 1, none⟩) (by simp)
    have f0 := hb1.frozen (p := ⟨w.heap.size + 1, 0, none⟩) (by simp)
    have f1 := hb1.frozen (p := ⟨w.heap.size + 1, 1, none⟩) (by simp)
    simp [go_sem] at k0 k1 f0 f1
    have HZ := Lib.hid hz1
    have HB := Lib.hid (hBn.trans (hb1.mono hBn.size))
    clear hzz hpos1 hm1 hz1 hb1 hBn h80 hR
    go_wp2
    refine bodyPost_ret (v := .agg #[.bool neg1, .slice A1 n1 c1]) (by simp [results, Tryz.results331, go_sem, k0, k1]) rfl ⟨_, rfl, HST.out, ?_⟩
    exact (HB.out.setCell (by simp) _).setCell (by simp) _
  | true =>
    go_enter Tryz.func331, Tryz.ntmps331
    go_wp2_with fail
    refine h80.mono ?_
    rintro e w1 ⟨v1, rfl, hz1, hb1⟩
    obtain ⟨neg1, A1, n1, c1, m1, rfl, hm1, hzz, hpos1, _, _⟩ := hz1.open'
    have hR := (hb1.block (w.heap.size + 1) (by simp)).trans (heap_alloc_new' (w.alloc (.cells #[.bool true, .slice A n c] 348)) (.cells #[.bool false, .slice none 0 0] 348) (by simp))
    have HST := Lib.hid (hz1.stored (u0 := .bool neg1) (u1 := .slice A1 n1 c1) hR)
    have k0 := hb1.cell (p := ⟨w.heap.size + 1, 0, none⟩) (by simp)
    have k1 := hb1.cell (p := ⟨w.heap.size + 1, 1, none⟩) (by simp)
    have f0 := hb1.frozen (p := ⟨w.heap.size + 1, 0, none⟩) (by simp)
    have f1 := hb1.frozen (p := ⟨w.heap.size + 1, 1, none⟩) (by simp)
    simp [go_sem] at k0 k1 f0 f1
    have HZ := Lib.hid hz1
    have HB := Lib.hid (hBn.trans (hb1.mono hBn.size))
    clear hzz hpos1 hm1 hz1 hb1 hBn h80 hR
    go_wp2
    refine bodyPost_ret (v := .agg #[.bool neg1, .slice A1 n1 c1]) (by simp [results, Tryz.results331, go_sem, k0, k1]) rfl ⟨_, rfl, HST.out, ?_⟩
    exact (HB.out.setCell (by simp) _).setCell (by simp) _
end Go.Proofs.YtbkgbkmpalbdpaaGreatDoor.G

namespace Go.Proofs.YtbkgbkmpalbdpaaGreatDoor.G
open Go.RowKit

def sgn (z : Int) : Int := if z < 0 then -1 else if z = 0 then 0 else 1
/-- A run that answers a value and leaves what was there. -/
def RetV (v : Value) (w : World) (e : Ending) (w' : World) : Prop := e = .returned v ∧ Below w.heap.size w w'

set_option maxRecDepth 100000 in
set_option maxHeartbeats 800000 in
theorem sign_any (v : Value) (z : Int) (N : Nat) (w : World) (hv : IsZ w v z N) (_hN : N ≤ 10000) :
    Calls Tryz.prog 404 #[v] w (RetV (.int .i64 (sgn z)) w) := by
  obtain ⟨neg, A, n, c, m, rfl, hm, hz, hpos, hn, hnz⟩ := hv.open'
  have hnn := hm.nonneg
  have hs : sgn z = if n = 0 then 0 else if neg = true then -1 else 1 := by
    unfold sgn
    cases neg with
    | false =>
      simp only [Bool.false_eq_true, if_false] at hz ⊢
      split <;> split <;> first | omega | (split <;> omega) | rfl
    | true =>
      have := hpos rfl
      simp only [if_true] at hz ⊢
      split <;> split <;> first | omega | (split <;> omega) | rfl
  have HS := Lib.hid hs
  have HB : ∀ x, Below w.heap.size w (w.alloc x) := fun x => (Below.refl _ _).alloc (Nat.le_refl _) x
  clear hv hm hz hnz hs hnn
  by_cases h0 : n = 0
  · subst h0
    have e1 : ((0 : Nat) : Int) = 0 := rfl
    go_enter Tryz.func404, Tryz.ntmps404
    go_wp2
    go_ret
    exact ⟨by rw [HS.out]; rfl, HB _⟩
  · have hp : 0 < n := by omega
    have e1 : ((n : Int) == 0) = false := by simp; omega
    have e2 : (n == 0) = false := by simp; omega
    cases neg with
    | false =>
      go_enter Tryz.func404, Tryz.ntmps404
      go_wp2
      go_ret
      exact ⟨by rw [HS.out, if_neg (by omega)]; rfl, HB _⟩
    | true =>
      go_enter Tryz.func404, Tryz.ntmps404
      go_wp2
      go_ret
      exact ⟨by rw [HS.out, if_neg (by omega)]; rfl, HB _⟩

/-- Two limbs. -/
theorem two_dv (u : Int) (h : 0 ≤ u ∧ u < 18446744073709551616) : DG.Dig b32 [u % 4294967296, u / 4294967296] ∧ DG.dv b32 [u % 4294967296, u / 4294967296] = u := by
  unfold b32
  refine ⟨fun x hx => ?_, ?_⟩
  · simp at hx
    rcases hx with rfl | rfl <;> omega
  · simp only [DG.dv]
    omega

/-- The two limbs of a new integer, trimmed. -/
theorem ofs_any (w : World) (u : Int) (hu : 0 ≤ u ∧ u < 18446744073709551616) :
    Calls Tryz.prog 400 #[.slice (some ⟨w.heap.size + 1, 0, none⟩) 2 2] ((w.alloc (.cells #[.bool false, .slice none 0 0] 348)).alloc (.cells #[.int .u32 (u % 4294967296), .int .u32 (u / 4294967296)] 294)) (fun e w' => e = .returned (.slice (some ⟨w.heap.size + 1, 0, none⟩) (DG.trim [u % 4294967296, u / 4294967296]).length 2) ∧ w' = (w.alloc (.cells #[.bool false, .slice none 0 0] 348)).alloc (.cells #[.int .u32 (u % 4294967296), .int .u32 (u / 4294967296)] 294)) ∧
    ∀ o, Mag ((w.alloc o).alloc (.cells #[.int .u32 (u % 4294967296), .int .u32 (u / 4294967296)] 294)) (.slice (some ⟨w.heap.size + 1, 0, none⟩) (DG.trim [u % 4294967296, u / 4294967296]).length 2) u 2 := by
  have hsz : ∀ o, (w.alloc o).heap.size = w.heap.size + 1 := fun o => World.size_alloc _ _
  have ho : ∀ o, Own 294 .u32 ((w.alloc o).alloc (.cells #[.int .u32 (u % 4294967296), .int .u32 (u / 4294967296)] 294)) (w.heap.size + 1) (.slice (some ⟨w.heap.size + 1, 0, none⟩) 2 2) 2 [u % 4294967296, u / 4294967296] := fun o => by
    have h := own_lit 294 .u32 (w.alloc o) [u % 4294967296, u / 4294967296] 2 (w.heap.size + 1) rfl (Nat.le_of_eq (hsz o).symm) (by omega)
    rw [hsz o] at h
    exact h
  obtain ⟨h1, h2⟩ := two_dv u hu
  refine ⟨trim_any _ 2 2 _ _ (ho _).ints rfl (by omega) (Nat.le_refl _) (by unfold maxLen; omega), fun o => ?_⟩
  have hm := Mag.trimmed (ho o) h1 (Nat.le_refl _)
  rw [h2] at hm
  exact hm

set_option maxRecDepth 100000 in
set_option maxHeartbeats 800000 in
theorem of_any (z : Int) (w : World) (hz : I64 z) :
    Calls Tryz.prog 330 #[.int .i64 z] w (RetZ z 2 w) := by
  obtain ⟨h1, h2⟩ := hz
  by_cases hneg : z < 0
  · have e1 := u64_neg z ⟨h1, hneg⟩
    have e2 : decide (z < 0) = true := decide_eq_true hneg
    have hk := ofs_any w (-z) (by omega)
    obtain ⟨hk1, hk2⟩ := hk
    have HK := Lib.hid hk2
    clear hk2
    go_enter Tryz.func330, Tryz.ntmps330
    go_wp2_with fail
    refine hk1.mono ?_
    rintro e w1 ⟨rfl, rfl⟩
    generalize (DG.trim [(-z) % 4294967296, (-z) / 4294967296]).length = L at *
    go_wp2
    refine bodyPost_ret (v := .agg #[.bool true, .slice (some ⟨w.heap.size + 1, 0, none⟩) L 2]) (by simp [results, Tryz.results330, go_sem]) rfl ⟨_, rfl, ⟨true, _, -z, rfl, HK.out _, by simp, fun _ => by omega⟩, ?_⟩
    exact ((Below.refl _ _).alloc (Nat.le_refl _) _).alloc (by simp) _
  · have e1 := u64_in z ⟨by omega, by omega⟩
    have e2 : decide (z < 0) = false := decide_eq_false hneg
    have hk := ofs_any w (z) (by omega)
    obtain ⟨hk1, hk2⟩ := hk
    have HK := Lib.hid hk2
    clear hk2
    go_enter Tryz.func330, Tryz.ntmps330
    go_wp2_with fail
    refine hk1.mono ?_
    rintro e w1 ⟨rfl, rfl⟩
    generalize (DG.trim [(z) % 4294967296, (z) / 4294967296]).length = L at *
    go_wp2
    refine bodyPost_ret (v := .agg #[.bool false, .slice (some ⟨w.heap.size + 1, 0, none⟩) L 2]) (by simp [results, Tryz.results330, go_sem]) rfl ⟨_, rfl, ⟨false, _, z, rfl, HK.out _, rfl, fun h => by cases h⟩, ?_⟩
    exact ((Below.refl _ _).alloc (Nat.le_refl _) _).alloc (by simp) _
end Go.Proofs.YtbkgbkmpalbdpaaGreatDoor.G

namespace Go.Proofs.YtbkgbkmpalbdpaaGreatDoor.G
open Go.RowKit

/-- The stored result of a row of calls: what follows the last call. -/
theorem res_zcell {w w1 : World} {s R : Nat} {o1 o2 : Obj} (hs : R = s + 2) (hw : w.heap.size = s) (hb : Below (s + 3) (((w.alloc o1).alloc o2).alloc (.cells #[.bool false, .slice none 0 0] 348)) w1) :
    w1.heap[R]? = some (.cells #[.bool false, .slice none 0 0] 348 (0, 0)) := by
  subst hs hw
  exact (hb.block (w.heap.size + 2) (by omega)).trans (heap_alloc_new' _ (.cells #[.bool false, .slice none 0 0] 348) (by simp))

set_option maxRecDepth 100000 in
set_option maxHeartbeats 1600000 in
theorem add_same (nb : Bool) (A : Option Addr) (n c : Nat) (B : Option Addr) (m d : Nat) (x y : Int) (N M : Nat) (w : World) (hx : Mag w (.slice A n c) x N) (hy : Mag w (.slice B m d) y M) (hN : N ≤ 999) (hM : M ≤ 999) :
    Calls Tryz.prog 333 #[.agg #[.bool nb, .slice A n c], .agg #[.bool nb, .slice B m d]] w (RetZ (if nb then -(x + y) else x + y) (max N M + 1) w) := by
  have c102 : ∀ W, Below w.heap.size w W → Calls Tryz.prog 401 #[.slice A n c, .slice B m d] W (RetMag (x + y) (max N M + 1) W) := fun W hb => plus_any (hx.below hb) (hy.below hb) hN hM
  have c79 := fun (v : Value) (W : World) (h : Mag W v (x + y) (max N M + 1)) => made_any nb v (x + y) (max N M + 1) W h (by omega)
  clear hx hy
  have hB : Below w.heap.size w (((w.alloc (.cells #[.bool nb, .slice A n c] 348)).alloc (.cells #[.bool nb, .slice B m d] 348)).alloc (.cells #[.bool false, .slice none 0 0] 348)) := (((Below.refl _ _).alloc (Nat.le_refl _) _).alloc (by simp) _).alloc (by simp; omega) _
  obtain ⟨W3, hW3⟩ : ∃ W3, W3 = ((w.alloc (.cells #[.bool nb, .slice A n c] 348)).alloc (.cells #[.bool nb, .slice B m d] 348)).alloc (.cells #[.bool false, .slice none 0 0] 348) := ⟨_, rfl⟩
  have hs3 : W3.heap.size = w.heap.size + 1 + 1 + 1 := by rw [hW3]; simp
  have HE : ∀ W, Below (w.heap.size + 1 + 1 + 1) W3 W → W.heap[w.heap.size + 1 + 1]? = some (.cells #[.bool false, .slice none 0 0] 348 (0, 0)) := fun W hb => res_zcell rfl rfl (hW3 ▸ hb)
  rw [← hW3] at hB
  have HB3 := Lib.hid hB
  clear hB
  rcases nb with _ | _
  · go_enter Tryz.func333, Tryz.ntmps333
    go_wp2_with fail
    rw [← hW3]
    have HW := Lib.hid hW3
    clear hW3
    have hbW := Below.refl (w.heap.size + 1 + 1 + 1) W3
    have k0 : W3.cell? ⟨w.heap.size, 0, none⟩ = some (.bool false) := by rw [HW.out]; simp [go_sem]
    have j0 := (hbW.cell (p := ⟨w.heap.size, 0, none⟩) (by show w.heap.size < w.heap.size + 1 + 1 + 1; omega)).trans k0
    have k1 : W3.cell? ⟨w.heap.size, 1, none⟩ = some (.slice A n c) := by rw [HW.out]; simp [go_sem]
    have j1 := (hbW.cell (p := ⟨w.heap.size, 1, none⟩) (by show w.heap.size < w.heap.size + 1 + 1 + 1; omega)).trans k1
    have k2 : W3.cell? ⟨w.heap.size + 1, 1, none⟩ = some (.slice B m d) := by rw [HW.out]; simp [go_sem]
    have j2 := (hbW.cell (p := ⟨w.heap.size + 1, 1, none⟩) (by show w.heap.size + 1 < w.heap.size + 1 + 1 + 1; omega)).trans k2
    refine Lex.wp_region_lex (fun w' => w'.cell? ⟨w.heap.size, 0, none⟩ = some (.bool false) ∧ w'.cell? ⟨w.heap.size, 1, none⟩ = some (.slice A n c) ∧ w'.cell? ⟨w.heap.size + 1, 1, none⟩ = some (.slice B m d)) (fun j => j != 8)
      [(0, true), (1, true), (2, true), (3, true), (4, true), (5, true), (6, false), (7, false), (8, false)]
      (by kernel_rfl) (by kernel_rfl) (by kernel_rfl) (by kernel_rfl) ⟨j0, j1, j2⟩ ?_
    iterate 6 (refine Lex.lex_take (v := ?_) rfl rfl (by rfl) (fun _ hS => ?_) ?_; rotate_left 1; (focus (go_split_ands; go_simp; with_reducible rfl)); simp only [List.setIfInBounds_toArray, List.set_cons_zero, List.set_cons_succ])
    refine Lex.lex_do rfl ?_
    have hb0 : Below (w.heap.size + 1 + 1 + 1) W3 W3.drew := hbW.drew
    generalize W3.drew = V0 at *
    clear hbW j0 j1 j2
    have c := c102 _ (HB3.out.trans (hb0.mono (by omega)))
    clear c102
    go_wp2_with fail
    refine (c).mono ?_
    rintro e V1 ⟨v1, rfl, hm1, hn1⟩
    have hb1 : Below (w.heap.size + 1 + 1 + 1) W3 V1 := hb0.trans (hn1.mono (by have := hb0.size; omega))
    have j0 := (hb1.cell (p := ⟨w.heap.size, 0, none⟩) (by show w.heap.size < w.heap.size + 1 + 1 + 1; omega)).trans k0
    have j1 := (hb1.cell (p := ⟨w.heap.size, 1, none⟩) (by show w.heap.size < w.heap.size + 1 + 1 + 1; omega)).trans k1
    have j2 := (hb1.cell (p := ⟨w.heap.size + 1, 1, none⟩) (by show w.heap.size + 1 < w.heap.size + 1 + 1 + 1; omega)).trans k2
    clear hb0 hn1
    go_wp2_with fail
    refine Lex.lexQ_normal (fun _ => ⟨j0, j1, j2⟩) ?_
    refine Lex.lex_do rfl ?_
    clear j0 j1 j2
    clear c
    have c := c79 _ _ hm1
    clear c79
    go_wp2_with fail
    refine (c).mono ?_
    rintro e V2 ⟨v2, rfl, hm2, hn2⟩
    have hb2 : Below (w.heap.size + 1 + 1 + 1) W3 V2 := hb1.trans (hn2.mono (by have := hb1.size; omega))
    have j0 := (hb2.cell (p := ⟨w.heap.size, 0, none⟩) (by show w.heap.size < w.heap.size + 1 + 1 + 1; omega)).trans k0
    have j1 := (hb2.cell (p := ⟨w.heap.size, 1, none⟩) (by show w.heap.size < w.heap.size + 1 + 1 + 1; omega)).trans k1
    have j2 := (hb2.cell (p := ⟨w.heap.size + 1, 1, none⟩) (by show w.heap.size + 1 < w.heap.size + 1 + 1 + 1; omega)).trans k2
    clear hb1 hn2
    go_wp2_with fail
    refine Lex.lexQ_normal (fun _ => ⟨j0, j1, j2⟩) ?_
    refine Lex.lex_do rfl ?_
    clear j0 j1 j2
    obtain ⟨neg1, A1, n1, c1, m1, rfl, hmm, hzz, hpos1, _, _⟩ := hm2.open'
    have hR := HE _ hb2
    have HST := Lib.hid (hm2.stored (u0 := .bool neg1) (u1 := .slice A1 n1 c1) hR)
    have q0 : V2.cell? ⟨w.heap.size + 1 + 1, 0, none⟩ = some (.bool false) := by simp [World.cell?, hR]
    have f0 : V2.frozen? ⟨w.heap.size + 1 + 1, 0, none⟩ = false := by simp [World.frozen?, hR]
    have q1 : V2.cell? ⟨w.heap.size + 1 + 1, 1, none⟩ = some (.slice none 0 0) := by simp [World.cell?, hR]
    have f1 : V2.frozen? ⟨w.heap.size + 1 + 1, 1, none⟩ = false := by simp [World.frozen?, hR]
    have HB := Lib.hid (HB3.out.trans (hb2.mono (by omega)))
    clear hzz hpos1 hmm hm2 hb2 hR k0 k1 k2
    go_wp2_with fail
    refine Lex.lexQ_normal (fun h => absurd h (by decide)) ?_
    refine Lex.lex_nil ?_
    go_wp2
    refine bodyPost_ret (v := .agg #[.bool neg1, .slice A1 n1 c1]) (by simp [results, Tryz.results333, go_sem, q0, q1]) rfl ⟨_, rfl, HST.out, ?_⟩
    exact (HB.out.setCell (by show w.heap.size ≤ w.heap.size + 1 + 1; omega) _).setCell (by show w.heap.size ≤ w.heap.size + 1 + 1; omega) _
  · go_enter Tryz.func333, Tryz.ntmps333
    go_wp2_with fail
    rw [← hW3]
    have HW := Lib.hid hW3
    clear hW3
    have hbW := Below.refl (w.heap.size + 1 + 1 + 1) W3
    have k0 : W3.cell? ⟨w.heap.size, 0, none⟩ = some (.bool true) := by rw [HW.out]; simp [go_sem]
    have j0 := (hbW.cell (p := ⟨w.heap.size, 0, none⟩) (by show w.heap.size < w.heap.size + 1 + 1 + 1; omega)).trans k0
    have k1 : W3.cell? ⟨w.heap.size, 1, none⟩ = some (.slice A n c) := by rw [HW.out]; simp [go_sem]
    have j1 := (hbW.cell (p := ⟨w.heap.size, 1, none⟩) (by show w.heap.size < w.heap.size + 1 + 1 + 1; omega)).trans k1
    have k2 : W3.cell? ⟨w.heap.size + 1, 1, none⟩ = some (.slice B m d) := by rw [HW.out]; simp [go_sem]
    have j2 := (hbW.cell (p := ⟨w.heap.size + 1, 1, none⟩) (by show w.heap.size + 1 < w.heap.size + 1 + 1 + 1; omega)).trans k2
    refine Lex.wp_region_lex (fun w' => w'.cell? ⟨w.heap.size, 0, none⟩ = some (.bool true) ∧ w'.cell? ⟨w.heap.size, 1, none⟩ = some (.slice A n c) ∧ w'.cell? ⟨w.heap.size + 1, 1, none⟩ = some (.slice B m d)) (fun j => j != 8)
      [(0, true), (1, true), (2, true), (3, true), (4, true), (5, true), (6, false), (7, false), (8, false)]
      (by kernel_rfl) (by kernel_rfl) (by kernel_rfl) (by kernel_rfl) ⟨j0, j1, j2⟩ ?_
    iterate 6 (refine Lex.lex_take (v := ?_) rfl rfl (by rfl) (fun _ hS => ?_) ?_; rotate_left 1; (focus (go_split_ands; go_simp; with_reducible rfl)); simp only [List.setIfInBounds_toArray, List.set_cons_zero, List.set_cons_succ])
    refine Lex.lex_do rfl ?_
    have hb0 : Below (w.heap.size + 1 + 1 + 1) W3 W3.drew := hbW.drew
    generalize W3.drew = V0 at *
    clear hbW j0 j1 j2
    have c := c102 _ (HB3.out.trans (hb0.mono (by omega)))
    clear c102
    go_wp2_with fail
    refine (c).mono ?_
    rintro e V1 ⟨v1, rfl, hm1, hn1⟩
    have hb1 : Below (w.heap.size + 1 + 1 + 1) W3 V1 := hb0.trans (hn1.mono (by have := hb0.size; omega))
    have j0 := (hb1.cell (p := ⟨w.heap.size, 0, none⟩) (by show w.heap.size < w.heap.size + 1 + 1 + 1; omega)).trans k0
    have j1 := (hb1.cell (p := ⟨w.heap.size, 1, none⟩) (by show w.heap.size < w.heap.size + 1 + 1 + 1; omega)).trans k1
    have j2 := (hb1.cell (p := ⟨w.heap.size + 1, 1, none⟩) (by show w.heap.size + 1 < w.heap.size + 1 + 1 + 1; omega)).trans k2
    clear hb0 hn1
    go_wp2_with fail
    refine Lex.lexQ_normal (fun _ => ⟨j0, j1, j2⟩) ?_
    refine Lex.lex_do rfl ?_
    clear j0 j1 j2
    clear c
    have c := c79 _ _ hm1
    clear c79
    go_wp2_with fail
    refine (c).mono ?_
    rintro e V2 ⟨v2, rfl, hm2, hn2⟩
    have hb2 : Below (w.heap.size + 1 + 1 + 1) W3 V2 := hb1.trans (hn2.mono (by have := hb1.size; omega))
    have j0 := (hb2.cell (p := ⟨w.heap.size, 0, none⟩) (by show w.heap.size < w.heap.size + 1 + 1 + 1; omega)).trans k0
    have j1 := (hb2.cell (p := ⟨w.heap.size, 1, none⟩) (by show w.heap.size < w.heap.size + 1 + 1 + 1; omega)).trans k1
    have j2 := (hb2.cell (p := ⟨w.heap.size + 1, 1, none⟩) (by show w.heap.size + 1 < w.heap.size + 1 + 1 + 1; omega)).trans k2
    clear hb1 hn2
    go_wp2_with fail
    refine Lex.lexQ_normal (fun _ => ⟨j0, j1, j2⟩) ?_
    refine Lex.lex_do rfl ?_
    clear j0 j1 j2
    obtain ⟨neg1, A1, n1, c1, m1, rfl, hmm, hzz, hpos1, _, _⟩ := hm2.open'
    have hR := HE _ hb2
    have HST := Lib.hid (hm2.stored (u0 := .bool neg1) (u1 := .slice A1 n1 c1) hR)
    have q0 : V2.cell? ⟨w.heap.size + 1 + 1, 0, none⟩ = some (.bool false) := by simp [World.cell?, hR]
    have f0 : V2.frozen? ⟨w.heap.size + 1 + 1, 0, none⟩ = false := by simp [World.frozen?, hR]
    have q1 : V2.cell? ⟨w.heap.size + 1 + 1, 1, none⟩ = some (.slice none 0 0) := by simp [World.cell?, hR]
    have f1 : V2.frozen? ⟨w.heap.size + 1 + 1, 1, none⟩ = false := by simp [World.frozen?, hR]
    have HB := Lib.hid (HB3.out.trans (hb2.mono (by omega)))
    clear hzz hpos1 hmm hm2 hb2 hR k0 k1 k2
    go_wp2_with fail
    refine Lex.lexQ_normal (fun h => absurd h (by decide)) ?_
    refine Lex.lex_nil ?_
    go_wp2
    refine bodyPost_ret (v := .agg #[.bool neg1, .slice A1 n1 c1]) (by simp [results, Tryz.results333, go_sem, q0, q1]) rfl ⟨_, rfl, HST.out, ?_⟩
    exact (HB.out.setCell (by show w.heap.size ≤ w.heap.size + 1 + 1; omega) _).setCell (by show w.heap.size ≤ w.heap.size + 1 + 1; omega) _

set_option maxRecDepth 100000 in
set_option maxHeartbeats 1600000 in
theorem add_ge (na : Bool) (A : Option Addr) (n c : Nat) (B : Option Addr) (m d : Nat) (x y : Int) (N M : Nat) (w : World) (hx : Mag w (.slice A n c) x N) (hy : Mag w (.slice B m d) y M) (hN : N ≤ 999) (hM : M ≤ 999) (hle : y ≤ x) :
    Calls Tryz.prog 333 #[.agg #[.bool na, .slice A n c], .agg #[.bool (!na), .slice B m d]] w (RetZ (if na then -(x - y) else x - y) (max N M) w) := by
  have c104 : ∀ W, Below w.heap.size w W → Calls Tryz.prog 403 #[.slice A n c, .slice B m d] W (RetMag (x - y) (max N M) W) := fun W hb => (minus_any (hx.below hb) (hy.below hb) hN hle).mono fun e w' ⟨v, h1, h2, h3⟩ => ⟨v, h1, h2.more (by omega), h3⟩
  have c79 := fun (v : Value) (W : World) (h : Mag W v (x - y) (max N M)) => made_any na v (x - y) (max N M) W h (by omega)
  have hB : Below w.heap.size w (((w.alloc (.cells #[.bool na, .slice A n c] 348)).alloc (.cells #[.bool (!na), .slice B m d] 348)).alloc (.cells #[.bool false, .slice none 0 0] 348)) := (((Below.refl _ _).alloc (Nat.le_refl _) _).alloc (by simp) _).alloc (by simp; omega) _
  obtain ⟨W3, hW3⟩ : ∃ W3, W3 = ((w.alloc (.cells #[.bool na, .slice A n c] 348)).alloc (.cells #[.bool (!na), .slice B m d] 348)).alloc (.cells #[.bool false, .slice none 0 0] 348) := ⟨_, rfl⟩
  have hs3 : W3.heap.size = w.heap.size + 1 + 1 + 1 := by rw [hW3]; simp
  have HE : ∀ W, Below (w.heap.size + 1 + 1 + 1) W3 W → W.heap[w.heap.size + 1 + 1]? = some (.cells #[.bool false, .slice none 0 0] 348 (0, 0)) := fun W hb => res_zcell rfl rfl (hW3 ▸ hb)
  rw [← hW3] at hB
  have HB3 := Lib.hid hB
  clear hB
  obtain ⟨sz, hsz, hsz1, hsz2, c⟩ := wsize_mag (hx.below HB3.out) (hy.below HB3.out) hN hM
  have hd : decide (0 ≤ sz) = true := decide_eq_true (by omega)
  rw [hW3] at c
  clear hx hy hsz hle
  rcases na with _ | _
  · go_enter Tryz.func333, Tryz.ntmps333
    go_wp2_with fail
    refine c.mono ?_
    rintro e W ⟨rfl, zz, rfl⟩
    rw [← hW3]
    have hbW : Below (w.heap.size + 1 + 1 + 1) W3 (W3.drewN zz) := ⟨rfl, rfl, rfl, Nat.le_refl _, fun _ _ => rfl⟩
    have HW := Lib.hid hW3
    clear hW3 c
    generalize W3.drewN zz = W4 at *
    go_wp2_with fail
    have k0 : W3.cell? ⟨w.heap.size, 0, none⟩ = some (.bool false) := by rw [HW.out]; simp [go_sem]
    have j0 := (hbW.cell (p := ⟨w.heap.size, 0, none⟩) (by show w.heap.size < w.heap.size + 1 + 1 + 1; omega)).trans k0
    have k1 : W3.cell? ⟨w.heap.size, 1, none⟩ = some (.slice A n c) := by rw [HW.out]; simp [go_sem]
    have j1 := (hbW.cell (p := ⟨w.heap.size, 1, none⟩) (by show w.heap.size < w.heap.size + 1 + 1 + 1; omega)).trans k1
    have k2 : W3.cell? ⟨w.heap.size + 1, 1, none⟩ = some (.slice B m d) := by rw [HW.out]; simp [go_sem]
    have j2 := (hbW.cell (p := ⟨w.heap.size + 1, 1, none⟩) (by show w.heap.size + 1 < w.heap.size + 1 + 1 + 1; omega)).trans k2
    refine Lex.wp_region_lex (fun w' => w'.cell? ⟨w.heap.size, 0, none⟩ = some (.bool false) ∧ w'.cell? ⟨w.heap.size, 1, none⟩ = some (.slice A n c) ∧ w'.cell? ⟨w.heap.size + 1, 1, none⟩ = some (.slice B m d)) (fun j => j != 8)
      [(0, true), (1, true), (2, true), (3, true), (4, true), (5, true), (6, false), (7, false), (8, false)]
      (by kernel_rfl) (by kernel_rfl) (by kernel_rfl) (by kernel_rfl) ⟨j0, j1, j2⟩ ?_
    iterate 6 (refine Lex.lex_take (v := ?_) rfl rfl (by rfl) (fun _ hS => ?_) ?_; rotate_left 1; (focus (go_split_ands; go_simp; with_reducible rfl)); simp only [List.setIfInBounds_toArray, List.set_cons_zero, List.set_cons_succ])
    refine Lex.lex_do rfl ?_
    have hb0 : Below (w.heap.size + 1 + 1 + 1) W3 W4.drew := hbW.drew
    generalize W4.drew = V0 at *
    clear hbW j0 j1 j2
    have c := c104 _ (HB3.out.trans (hb0.mono (by omega)))
    clear c104
    go_wp2_with fail
    refine (c).mono ?_
    rintro e V1 ⟨v1, rfl, hm1, hn1⟩
    have hb1 : Below (w.heap.size + 1 + 1 + 1) W3 V1 := hb0.trans (hn1.mono (by have := hb0.size; omega))
    have j0 := (hb1.cell (p := ⟨w.heap.size, 0, none⟩) (by show w.heap.size < w.heap.size + 1 + 1 + 1; omega)).trans k0
    have j1 := (hb1.cell (p := ⟨w.heap.size, 1, none⟩) (by show w.heap.size < w.heap.size + 1 + 1 + 1; omega)).trans k1
    have j2 := (hb1.cell (p := ⟨w.heap.size + 1, 1, none⟩) (by show w.heap.size + 1 < w.heap.size + 1 + 1 + 1; omega)).trans k2
    clear hb0 hn1
    go_wp2_with fail
    refine Lex.lexQ_normal (fun _ => ⟨j0, j1, j2⟩) ?_
    refine Lex.lex_do rfl ?_
    clear j0 j1 j2
    clear c
    have c := c79 _ _ hm1
    clear c79
    go_wp2_with fail
    refine (c).mono ?_
    rintro e V2 ⟨v2, rfl, hm2, hn2⟩
    have hb2 : Below (w.heap.size + 1 + 1 + 1) W3 V2 := hb1.trans (hn2.mono (by have := hb1.size; omega))
    have j0 := (hb2.cell (p := ⟨w.heap.size, 0, none⟩) (by show w.heap.size < w.heap.size + 1 + 1 + 1; omega)).trans k0
    have j1 := (hb2.cell (p := ⟨w.heap.size, 1, none⟩) (by show w.heap.size < w.heap.size + 1 + 1 + 1; omega)).trans k1
    have j2 := (hb2.cell (p := ⟨w.heap.size + 1, 1, none⟩) (by show w.heap.size + 1 < w.heap.size + 1 + 1 + 1; omega)).trans k2
    clear hb1 hn2
    go_wp2_with fail
    refine Lex.lexQ_normal (fun _ => ⟨j0, j1, j2⟩) ?_
    refine Lex.lex_do rfl ?_
    clear j0 j1 j2
    obtain ⟨neg1, A1, n1, c1, m1, rfl, hmm, hzz, hpos1, _, _⟩ := hm2.open'
    have hR := HE _ hb2
    have HST := Lib.hid (hm2.stored (u0 := .bool neg1) (u1 := .slice A1 n1 c1) hR)
    have q0 : V2.cell? ⟨w.heap.size + 1 + 1, 0, none⟩ = some (.bool false) := by simp [World.cell?, hR]
    have f0 : V2.frozen? ⟨w.heap.size + 1 + 1, 0, none⟩ = false := by simp [World.frozen?, hR]
    have q1 : V2.cell? ⟨w.heap.size + 1 + 1, 1, none⟩ = some (.slice none 0 0) := by simp [World.cell?, hR]
    have f1 : V2.frozen? ⟨w.heap.size + 1 + 1, 1, none⟩ = false := by simp [World.frozen?, hR]
    have HB := Lib.hid (HB3.out.trans (hb2.mono (by omega)))
    clear hzz hpos1 hmm hm2 hb2 hR k0 k1 k2
    go_wp2_with fail
    refine Lex.lexQ_normal (fun h => absurd h (by decide)) ?_
    refine Lex.lex_nil ?_
    go_wp2
    refine bodyPost_ret (v := .agg #[.bool neg1, .slice A1 n1 c1]) (by simp [results, Tryz.results333, go_sem, q0, q1]) rfl ⟨_, rfl, HST.out, ?_⟩
    exact (HB.out.setCell (by show w.heap.size ≤ w.heap.size + 1 + 1; omega) _).setCell (by show w.heap.size ≤ w.heap.size + 1 + 1; omega) _
  · go_enter Tryz.func333, Tryz.ntmps333
    go_wp2_with fail
    refine c.mono ?_
    rintro e W ⟨rfl, zz, rfl⟩
    rw [← hW3]
    have hbW : Below (w.heap.size + 1 + 1 + 1) W3 (W3.drewN zz) := ⟨rfl, rfl, rfl, Nat.le_refl _, fun _ _ => rfl⟩
    have HW := Lib.hid hW3
    clear hW3 c
    generalize W3.drewN zz = W4 at *
    go_wp2_with fail
    have k0 : W3.cell? ⟨w.heap.size, 0, none⟩ = some (.bool true) := by rw [HW.out]; simp [go_sem]
    have j0 := (hbW.cell (p := ⟨w.heap.size, 0, none⟩) (by show w.heap.size < w.heap.size + 1 + 1 + 1; omega)).trans k0
    have k1 : W3.cell? ⟨w.heap.size, 1, none⟩ = some (.slice A n c) := by rw [HW.out]; simp [go_sem]
    have j1 := (hbW.cell (p := ⟨w.heap.size, 1, none⟩) (by show w.heap.size < w.heap.size + 1 + 1 + 1; omega)).trans k1
    have k2 : W3.cell? ⟨w.heap.size + 1, 1, none⟩ = some (.slice B m d) := by rw [HW.out]; simp [go_sem]
    have j2 := (hbW.cell (p := ⟨w.heap.size + 1, 1, none⟩) (by show w.heap.size + 1 < w.heap.size + 1 + 1 + 1; omega)).trans k2
    refine Lex.wp_region_lex (fun w' => w'.cell? ⟨w.heap.size, 0, none⟩ = some (.bool true) ∧ w'.cell? ⟨w.heap.size, 1, none⟩ = some (.slice A n c) ∧ w'.cell? ⟨w.heap.size + 1, 1, none⟩ = some (.slice B m d)) (fun j => j != 8)
      [(0, true), (1, true), (2, true), (3, true), (4, true), (5, true), (6, false), (7, false), (8, false)]
      (by kernel_rfl) (by kernel_rfl) (by kernel_rfl) (by kernel_rfl) ⟨j0, j1, j2⟩ ?_
    iterate 6 (refine Lex.lex_take (v := ?_) rfl rfl (by rfl) (fun _ hS => ?_) ?_; rotate_left 1; (focus (go_split_ands; go_simp; with_reducible rfl)); simp only [List.setIfInBounds_toArray, List.set_cons_zero, List.set_cons_succ])
    refine Lex.lex_do rfl ?_
    have hb0 : Below (w.heap.size + 1 + 1 + 1) W3 W4.drew := hbW.drew
    generalize W4.drew = V0 at *
    clear hbW j0 j1 j2
    have c := c104 _ (HB3.out.trans (hb0.mono (by omega)))
    clear c104
    go_wp2_with fail
    refine (c).mono ?_
    rintro e V1 ⟨v1, rfl, hm1, hn1⟩
    have hb1 : Below (w.heap.size + 1 + 1 + 1) W3 V1 := hb0.trans (hn1.mono (by have := hb0.size; omega))
    have j0 := (hb1.cell (p := ⟨w.heap.size, 0, none⟩) (by show w.heap.size < w.heap.size + 1 + 1 + 1; omega)).trans k0
    have j1 := (hb1.cell (p := ⟨w.heap.size, 1, none⟩) (by show w.heap.size < w.heap.size + 1 + 1 + 1; omega)).trans k1
    have j2 := (hb1.cell (p := ⟨w.heap.size + 1, 1, none⟩) (by show w.heap.size + 1 < w.heap.size + 1 + 1 + 1; omega)).trans k2
    clear hb0 hn1
    go_wp2_with fail
    refine Lex.lexQ_normal (fun _ => ⟨j0, j1, j2⟩) ?_
    refine Lex.lex_do rfl ?_
    clear j0 j1 j2
    clear c
    have c := c79 _ _ hm1
    clear c79
    go_wp2_with fail
    refine (c).mono ?_
    rintro e V2 ⟨v2, rfl, hm2, hn2⟩
    have hb2 : Below (w.heap.size + 1 + 1 + 1) W3 V2 := hb1.trans (hn2.mono (by have := hb1.size; omega))
    have j0 := (hb2.cell (p := ⟨w.heap.size, 0, none⟩) (by show w.heap.size < w.heap.size + 1 + 1 + 1; omega)).trans k0
    have j1 := (hb2.cell (p := ⟨w.heap.size, 1, none⟩) (by show w.heap.size < w.heap.size + 1 + 1 + 1; omega)).trans k1
    have j2 := (hb2.cell (p := ⟨w.heap.size + 1, 1, none⟩) (by show w.heap.size + 1 < w.heap.size + 1 + 1 + 1; omega)).trans k2
    clear hb1 hn2
    go_wp2_with fail
    refine Lex.lexQ_normal (fun _ => ⟨j0, j1, j2⟩) ?_
    refine Lex.lex_do rfl ?_
    clear j0 j1 j2
    obtain ⟨neg1, A1, n1, c1, m1, rfl, hmm, hzz, hpos1, _, _⟩ := hm2.open'
    have hR := HE _ hb2
    have HST := Lib.hid (hm2.stored (u0 := .bool neg1) (u1 := .slice A1 n1 c1) hR)
    have q0 : V2.cell? ⟨w.heap.size + 1 + 1, 0, none⟩ = some (.bool false) := by simp [World.cell?, hR]
    have f0 : V2.frozen? ⟨w.heap.size + 1 + 1, 0, none⟩ = false := by simp [World.frozen?, hR]
    have q1 : V2.cell? ⟨w.heap.size + 1 + 1, 1, none⟩ = some (.slice none 0 0) := by simp [World.cell?, hR]
    have f1 : V2.frozen? ⟨w.heap.size + 1 + 1, 1, none⟩ = false := by simp [World.frozen?, hR]
    have HB := Lib.hid (HB3.out.trans (hb2.mono (by omega)))
    clear hzz hpos1 hmm hm2 hb2 hR k0 k1 k2
    go_wp2_with fail
    refine Lex.lexQ_normal (fun h => absurd h (by decide)) ?_
    refine Lex.lex_nil ?_
    go_wp2
    refine bodyPost_ret (v := .agg #[.bool neg1, .slice A1 n1 c1]) (by simp [results, Tryz.results333, go_sem, q0, q1]) rfl ⟨_, rfl, HST.out, ?_⟩
    exact (HB.out.setCell (by show w.heap.size ≤ w.heap.size + 1 + 1; omega) _).setCell (by show w.heap.size ≤ w.heap.size + 1 + 1; omega) _

set_option maxRecDepth 100000 in
set_option maxHeartbeats 1600000 in
theorem add_lt (na : Bool) (A : Option Addr) (n c : Nat) (B : Option Addr) (m d : Nat) (x y : Int) (N M : Nat) (w : World) (hx : Mag w (.slice A n c) x N) (hy : Mag w (.slice B m d) y M) (hN : N ≤ 999) (hM : M ≤ 999) (hle : x < y) :
    Calls Tryz.prog 333 #[.agg #[.bool na, .slice A n c], .agg #[.bool (!na), .slice B m d]] w (RetZ (if na then y - x else -(y - x)) (max N M) w) := by
  have c104 : ∀ W, Below w.heap.size w W → Calls Tryz.prog 403 #[.slice B m d, .slice A n c] W (RetMag (y - x) (max N M) W) := fun W hb => (minus_any (hy.below hb) (hx.below hb) hM (by omega)).mono fun e w' ⟨v, h1, h2, h3⟩ => ⟨v, h1, h2.more (by omega), h3⟩
  have c79 := fun (v : Value) (W : World) (h : Mag W v (y - x) (max N M)) => made_any (!na) v (y - x) (max N M) W h (by omega)
  have hB : Below w.heap.size w (((w.alloc (.cells #[.bool na, .slice A n c] 348)).alloc (.cells #[.bool (!na), .slice B m d] 348)).alloc (.cells #[.bool false, .slice none 0 0] 348)) := (((Below.refl _ _).alloc (Nat.le_refl _) _).alloc (by simp) _).alloc (by simp; omega) _
  obtain ⟨W3, hW3⟩ : ∃ W3, W3 = ((w.alloc (.cells #[.bool na, .slice A n c] 348)).alloc (.cells #[.bool (!na), .slice B m d] 348)).alloc (.cells #[.bool false, .slice none 0 0] 348) := ⟨_, rfl⟩
  have hs3 : W3.heap.size = w.heap.size + 1 + 1 + 1 := by rw [hW3]; simp
  have HE : ∀ W, Below (w.heap.size + 1 + 1 + 1) W3 W → W.heap[w.heap.size + 1 + 1]? = some (.cells #[.bool false, .slice none 0 0] 348 (0, 0)) := fun W hb => res_zcell rfl rfl (hW3 ▸ hb)
  rw [← hW3] at hB
  have HB3 := Lib.hid hB
  clear hB
  obtain ⟨sz, hsz, hsz1, hsz2, c⟩ := wsize_mag (hx.below HB3.out) (hy.below HB3.out) hN hM
  have hd : decide (0 ≤ sz) = false := decide_eq_false (by omega)
  rw [hW3] at c
  clear hx hy hsz hle
  rcases na with _ | _
  · go_enter Tryz.func333, Tryz.ntmps333
    go_wp2_with fail
    refine c.mono ?_
    rintro e W ⟨rfl, zz, rfl⟩
    rw [← hW3]
    have hbW : Below (w.heap.size + 1 + 1 + 1) W3 (W3.drewN zz) := ⟨rfl, rfl, rfl, Nat.le_refl _, fun _ _ => rfl⟩
    have HW := Lib.hid hW3
    clear hW3 c
    generalize W3.drewN zz = W4 at *
    go_wp2_with fail
    have k0 : W3.cell? ⟨w.heap.size + 1, 0, none⟩ = some (.bool true) := by rw [HW.out]; simp [go_sem]
    have j0 := (hbW.cell (p := ⟨w.heap.size + 1, 0, none⟩) (by show w.heap.size + 1 < w.heap.size + 1 + 1 + 1; omega)).trans k0
    have k1 : W3.cell? ⟨w.heap.size + 1, 1, none⟩ = some (.slice B m d) := by rw [HW.out]; simp [go_sem]
    have j1 := (hbW.cell (p := ⟨w.heap.size + 1, 1, none⟩) (by show w.heap.size + 1 < w.heap.size + 1 + 1 + 1; omega)).trans k1
    have k2 : W3.cell? ⟨w.heap.size, 1, none⟩ = some (.slice A n c) := by rw [HW.out]; simp [go_sem]
    have j2 := (hbW.cell (p := ⟨w.heap.size, 1, none⟩) (by show w.heap.size < w.heap.size + 1 + 1 + 1; omega)).trans k2
    refine Lex.wp_region_lex (fun w' => w'.cell? ⟨w.heap.size + 1, 0, none⟩ = some (.bool true) ∧ w'.cell? ⟨w.heap.size + 1, 1, none⟩ = some (.slice B m d) ∧ w'.cell? ⟨w.heap.size, 1, none⟩ = some (.slice A n c)) (fun j => j != 8)
      [(0, true), (1, true), (2, true), (3, true), (4, true), (5, true), (6, false), (7, false), (8, false)]
      (by kernel_rfl) (by kernel_rfl) (by kernel_rfl) (by kernel_rfl) ⟨j0, j1, j2⟩ ?_
    iterate 6 (refine Lex.lex_take (v := ?_) rfl rfl (by rfl) (fun _ hS => ?_) ?_; rotate_left 1; (focus (go_split_ands; go_simp; with_reducible rfl)); simp only [List.setIfInBounds_toArray, List.set_cons_zero, List.set_cons_succ])
    refine Lex.lex_do rfl ?_
    have hb0 : Below (w.heap.size + 1 + 1 + 1) W3 W4.drew := hbW.drew
    generalize W4.drew = V0 at *
    clear hbW j0 j1 j2
    have c := c104 _ (HB3.out.trans (hb0.mono (by omega)))
    clear c104
    go_wp2_with fail
    refine (c).mono ?_
    rintro e V1 ⟨v1, rfl, hm1, hn1⟩
    have hb1 : Below (w.heap.size + 1 + 1 + 1) W3 V1 := hb0.trans (hn1.mono (by have := hb0.size; omega))
    have j0 := (hb1.cell (p := ⟨w.heap.size + 1, 0, none⟩) (by show w.heap.size + 1 < w.heap.size + 1 + 1 + 1; omega)).trans k0
    have j1 := (hb1.cell (p := ⟨w.heap.size + 1, 1, none⟩) (by show w.heap.size + 1 < w.heap.size + 1 + 1 + 1; omega)).trans k1
    have j2 := (hb1.cell (p := ⟨w.heap.size, 1, none⟩) (by show w.heap.size < w.heap.size + 1 + 1 + 1; omega)).trans k2
    clear hb0 hn1
    go_wp2_with fail
    refine Lex.lexQ_normal (fun _ => ⟨j0, j1, j2⟩) ?_
    refine Lex.lex_do rfl ?_
    clear j0 j1 j2
    clear c
    have c := c79 _ _ hm1
    clear c79
    go_wp2_with fail
    refine (c).mono ?_
    rintro e V2 ⟨v2, rfl, hm2, hn2⟩
    have hb2 : Below (w.heap.size + 1 + 1 + 1) W3 V2 := hb1.trans (hn2.mono (by have := hb1.size; omega))
    have j0 := (hb2.cell (p := ⟨w.heap.size + 1, 0, none⟩) (by show w.heap.size + 1 < w.heap.size + 1 + 1 + 1; omega)).trans k0
    have j1 := (hb2.cell (p := ⟨w.heap.size + 1, 1, none⟩) (by show w.heap.size + 1 < w.heap.size + 1 + 1 + 1; omega)).trans k1
    have j2 := (hb2.cell (p := ⟨w.heap.size, 1, none⟩) (by show w.heap.size < w.heap.size + 1 + 1 + 1; omega)).trans k2
    clear hb1 hn2
    go_wp2_with fail
    refine Lex.lexQ_normal (fun _ => ⟨j0, j1, j2⟩) ?_
    refine Lex.lex_do rfl ?_
    clear j0 j1 j2
    obtain ⟨neg1, A1, n1, c1, m1, rfl, hmm, hzz, hpos1, _, _⟩ := hm2.open'
    have hR := HE _ hb2
    have HST := Lib.hid (hm2.stored (u0 := .bool neg1) (u1 := .slice A1 n1 c1) hR)
    have q0 : V2.cell? ⟨w.heap.size + 1 + 1, 0, none⟩ = some (.bool false) := by simp [World.cell?, hR]
    have f0 : V2.frozen? ⟨w.heap.size + 1 + 1, 0, none⟩ = false := by simp [World.frozen?, hR]
    have q1 : V2.cell? ⟨w.heap.size + 1 + 1, 1, none⟩ = some (.slice none 0 0) := by simp [World.cell?, hR]
    have f1 : V2.frozen? ⟨w.heap.size + 1 + 1, 1, none⟩ = false := by simp [World.frozen?, hR]
    have HB := Lib.hid (HB3.out.trans (hb2.mono (by omega)))
    clear hzz hpos1 hmm hm2 hb2 hR k0 k1 k2
    go_wp2_with fail
    refine Lex.lexQ_normal (fun h => absurd h (by decide)) ?_
    refine Lex.lex_nil ?_
    go_wp2
    refine bodyPost_ret (v := .agg #[.bool neg1, .slice A1 n1 c1]) (by simp [results, Tryz.results333, go_sem, q0, q1]) rfl ⟨_, rfl, HST.out, ?_⟩
    exact (HB.out.setCell (by show w.heap.size ≤ w.heap.size + 1 + 1; omega) _).setCell (by show w.heap.size ≤ w.heap.size + 1 + 1; omega) _
  · go_enter Tryz.func333, Tryz.ntmps333
    go_wp2_with fail
    refine c.mono ?_
    rintro e W ⟨rfl, zz, rfl⟩
    rw [← hW3]
    have hbW : Below (w.heap.size + 1 + 1 + 1) W3 (W3.drewN zz) := ⟨rfl, rfl, rfl, Nat.le_refl _, fun _ _ => rfl⟩
    have HW := Lib.hid hW3
    clear hW3 c
    generalize W3.drewN zz = W4 at *
    go_wp2_with fail
    have k0 : W3.cell? ⟨w.heap.size + 1, 0, none⟩ = some (.bool false) := by rw [HW.out]; simp [go_sem]
    have j0 := (hbW.cell (p := ⟨w.heap.size + 1, 0, none⟩) (by show w.heap.size + 1 < w.heap.size + 1 + 1 + 1; omega)).trans k0
    have k1 : W3.cell? ⟨w.heap.size + 1, 1, none⟩ = some (.slice B m d) := by rw [HW.out]; simp [go_sem]
    have j1 := (hbW.cell (p := ⟨w.heap.size + 1, 1, none⟩) (by show w.heap.size + 1 < w.heap.size + 1 + 1 + 1; omega)).trans k1
    have k2 : W3.cell? ⟨w.heap.size, 1, none⟩ = some (.slice A n c) := by rw [HW.out]; simp [go_sem]
    have j2 := (hbW.cell (p := ⟨w.heap.size, 1, none⟩) (by show w.heap.size < w.heap.size + 1 + 1 + 1; omega)).trans k2
    refine Lex.wp_region_lex (fun w' => w'.cell? ⟨w.heap.size + 1, 0, none⟩ = some (.bool false) ∧ w'.cell? ⟨w.heap.size + 1, 1, none⟩ = some (.slice B m d) ∧ w'.cell? ⟨w.heap.size, 1, none⟩ = some (.slice A n c)) (fun j => j != 8)
      [(0, true), (1, true), (2, true), (3, true), (4, true), (5, true), (6, false), (7, false), (8, false)]
      (by kernel_rfl) (by kernel_rfl) (by kernel_rfl) (by kernel_rfl) ⟨j0, j1, j2⟩ ?_
    iterate 6 (refine Lex.lex_take (v := ?_) rfl rfl (by rfl) (fun _ hS => ?_) ?_; rotate_left 1; (focus (go_split_ands; go_simp; with_reducible rfl)); simp only [List.setIfInBounds_toArray, List.set_cons_zero, List.set_cons_succ])
    refine Lex.lex_do rfl ?_
    have hb0 : Below (w.heap.size + 1 + 1 + 1) W3 W4.drew := hbW.drew
    generalize W4.drew = V0 at *
    clear hbW j0 j1 j2
    have c := c104 _ (HB3.out.trans (hb0.mono (by omega)))
    clear c104
    go_wp2_with fail
    refine (c).mono ?_
    rintro e V1 ⟨v1, rfl, hm1, hn1⟩
    have hb1 : Below (w.heap.size + 1 + 1 + 1) W3 V1 := hb0.trans (hn1.mono (by have := hb0.size; omega))
    have j0 := (hb1.cell (p := ⟨w.heap.size + 1, 0, none⟩) (by show w.heap.size + 1 < w.heap.size + 1 + 1 + 1; omega)).trans k0
    have j1 := (hb1.cell (p := ⟨w.heap.size + 1, 1, none⟩) (by show w.heap.size + 1 < w.heap.size + 1 + 1 + 1; omega)).trans k1
    have j2 := (hb1.cell (p := ⟨w.heap.size, 1, none⟩) (by show w.heap.size < w.heap.size + 1 + 1 + 1; omega)).trans k2
    clear hb0 hn1
    go_wp2_with fail
    refine Lex.lexQ_normal (fun _ => ⟨j0, j1, j2⟩) ?_
    refine Lex.lex_do rfl ?_
    clear j0 j1 j2
    clear c
    have c := c79 _ _ hm1
    clear c79
    go_wp2_with fail
    refine (c).mono ?_
    rintro e V2 ⟨v2, rfl, hm2, hn2⟩
    have hb2 : Below (w.heap.size + 1 + 1 + 1) W3 V2 := hb1.trans (hn2.mono (by have := hb1.size; omega))
    have j0 := (hb2.cell (p := ⟨w.heap.size + 1, 0, none⟩) (by show w.heap.size + 1 < w.heap.size + 1 + 1 + 1; omega)).trans k0
    have j1 := (hb2.cell (p := ⟨w.heap.size + 1, 1, none⟩) (by show w.heap.size + 1 < w.heap.size + 1 + 1 + 1; omega)).trans k1
    have j2 := (hb2.cell (p := ⟨w.heap.size, 1, none⟩) (by show w.heap.size < w.heap.size + 1 + 1 + 1; omega)).trans k2
    clear hb1 hn2
    go_wp2_with fail
    refine Lex.lexQ_normal (fun _ => ⟨j0, j1, j2⟩) ?_
    refine Lex.lex_do rfl ?_
    clear j0 j1 j2
    obtain ⟨neg1, A1, n1, c1, m1, rfl, hmm, hzz, hpos1, _, _⟩ := hm2.open'
    have hR := HE _ hb2
    have HST := Lib.hid (hm2.stored (u0 := .bool neg1) (u1 := .slice A1 n1 c1) hR)
    have q0 : V2.cell? ⟨w.heap.size + 1 + 1, 0, none⟩ = some (.bool false) := by simp [World.cell?, hR]
    have f0 : V2.frozen? ⟨w.heap.size + 1 + 1, 0, none⟩ = false := by simp [World.frozen?, hR]
    have q1 : V2.cell? ⟨w.heap.size + 1 + 1, 1, none⟩ = some (.slice none 0 0) := by simp [World.cell?, hR]
    have f1 : V2.frozen? ⟨w.heap.size + 1 + 1, 1, none⟩ = false := by simp [World.frozen?, hR]
    have HB := Lib.hid (HB3.out.trans (hb2.mono (by omega)))
    clear hzz hpos1 hmm hm2 hb2 hR k0 k1 k2
    go_wp2_with fail
    refine Lex.lexQ_normal (fun h => absurd h (by decide)) ?_
    refine Lex.lex_nil ?_
    go_wp2
    refine bodyPost_ret (v := .agg #[.bool neg1, .slice A1 n1 c1]) (by simp [results, Tryz.results333, go_sem, q0, q1]) rfl ⟨_, rfl, HST.out, ?_⟩
    exact (HB.out.setCell (by show w.heap.size ≤ w.heap.size + 1 + 1; omega) _).setCell (by show w.heap.size ≤ w.heap.size + 1 + 1; omega) _

end Go.Proofs.YtbkgbkmpalbdpaaGreatDoor.G
