/- ref's term: no node is left (printed by expand.py). -/
import Derived.Test.YtobpacebpiabcaaDoorFc
namespace Go.Proofs.YtobpacebpiabcaaDoor
open Go.RowKit Go.Lib
set_option maxRecDepth 100000 in
set_option maxHeartbeats 6400000 in
theorem rterm_zero (s : List UInt8) (L : Int) (w : World) (hL : L = ((0 : Nat) : Int)) : Calls Tryd.prog 49 #[.string ⟨s.toArray⟩, .int .i64 L] w (RetRT 0 s w) := by
  have HRN := Lib.hid (show rt 0 s = none by rw [rt])
  have d0 : L < 1 := by omega
  obtain ⟨n, hn⟩ : ∃ n, s.length = n := ⟨_, rfl⟩
  have hz : (⟨s.toArray⟩ : ByteArray).size = n := by show s.toArray.size = _; simpa using hn
  have HN := Lib.hid hn
  have HPN := Lib.hid (show rt 0 s = none → ∀ (k : Int) (nm : List UInt8) (n : Int) (A : Option Addr) (q c : Nat) (r : List UInt8) (e : Ending) (w' : World), e = .returned (.tuple #[.agg #[.int .i64 k, .string ⟨nm.toArray⟩, .int .i64 n, .slice A q c], .string ⟨r.toArray⟩, .bool false]) → Below w.heap.size w w' → RetRT 0 s w e w' from fun h k nm n A q c r e w' h1 h2 => .inr ⟨k, nm, n, A, q, c, r, h, h1, h2⟩)
  have HPS := Lib.hid (show ∀ t rest v (e : Ending) (w' : World), rt 0 s = some (t, rest) → e = .returned (.tuple #[v, .string ⟨rest.toArray⟩, .bool true]) → TmV (fun b => w.heap.size ≤ b) w' v t → Below w.heap.size w w' → RetRT 0 s w e w' from fun t rest v e w' h h1 h2 h3 => .inl ⟨t, rest, v, h, h1, h2, h3⟩)
  generalize hPost : RetRT 0 s w = Post at *
  obtain ⟨W2, hW2⟩ : ∃ W2, W2 = (w.alloc (.cells #[.int .i64 0, .string ⟨#[]⟩, .int .i64 0, .slice none 0 0] 26)).alloc (.cells #[.int .i64 0, .string ⟨#[]⟩, .int .i64 0, .slice none 0 0] 26) := ⟨_, rfl⟩
  have HW2 := Lib.hid (show Below w.heap.size w W2 by rw [hW2]; exact ((Below.refl _ _).alloc (Nat.le_refl _) _).alloc (by simp) _)
  have HZ2 := Lib.hid (show Blk W2 w.heap.size #[.int .i64 0, .string ⟨#[]⟩, .int .i64 0, .slice none 0 0] 26 by rw [hW2]; exact (Blk.new w _ _).below ((Below.refl _ _).alloc (Nat.le_refl _) _))
  obtain ⟨H, hH⟩ : ∃ H, w.heap.size + 1 = H := ⟨_, rfl⟩
  have HH2 := Lib.hid (show Blk W2 H #[.int .i64 0, .string ⟨#[]⟩, .int .i64 0, .slice none 0 0] 26 by
    have h := Blk.new (w.alloc (.cells #[.int .i64 0, .string ⟨#[]⟩, .int .i64 0, .slice none 0 0] 26)) #[.int .i64 0, .string ⟨#[]⟩, .int .i64 0, .slice none 0 0] 26
    rw [show (w.alloc (.cells #[.int .i64 0, .string ⟨#[]⟩, .int .i64 0, .slice none 0 0] 26)).heap.size = H by rw [← hH]; simp, ← hW2] at h
    exact h)
  have HHX := Lib.hid (show w.heap.size < H by omega)
  clear hPost hn
  go_enter Tryd.func49, Tryd.ntmps49
  go_upto_region 2 with fail
  rw [← hW2]
  clear hW2 hH
  have n0 := HH2.out.cell 0
  have n1 := HH2.out.cell 1
  have n2 := HH2.out.cell 2
  have n3 := HH2.out.cell 3
  have z0 := HZ2.out.cell 0
  have z1 := HZ2.out.cell 1
  have z2 := HZ2.out.cell 2
  have z3 := HZ2.out.cell 3
  have g0 := HZ2.out.free 0
  have g1 := HZ2.out.free 1
  have g2 := HZ2.out.free 2
  have g3 := HZ2.out.free 3
  have HE := Lib.hid (HZ2.out.set4 (.int .i64 0) (.string ⟨#[]⟩) (.int .i64 0) (.slice none 0 0))
  have HEB := Lib.hid (below_set4' HW2.out (Nat.le_refl _) (.int .i64 0) (.string ⟨#[]⟩) (.int .i64 0) (.slice none 0 0))
  go_wp2
  have r0 := HE.out.cell 0
  have r1 := HE.out.cell 1
  have r2 := HE.out.cell 2
  have r3 := HE.out.cell 3
  refine bodyPost_ret (v := .tuple #[.agg #[.int .i64 0, .string ⟨#[]⟩, .int .i64 0, .slice none 0 0], .string ⟨#[]⟩, .bool false]) ?_ rfl (HPN.out HRN.out 0 [] 0 none 0 0 [] _ _ rfl HEB.out)
  simp [set4] at r0 r1 r2 r3
  simp [results, Tryd.results49, go_sem, r0, r1, r2, r3]
theorem blk_set4Oth {W : World} {B C : Nat} {cs : Array Value} {t : TypeId} (h : Blk W B cs t) (hn : B ≠ C) (a b c d : Value) : Blk (set4 W C a b c d) B cs t := (((h.setOther _ _ hn).setOther _ _ hn).setOther _ _ hn).setOther _ _ hn
theorem w3_cell {w : World} {B : Nat} {t : TypeId} (h : Blk w B #[.string ⟨#[32, 97, 110, 100, 32]⟩, .string ⟨#[32, 111, 114, 32]⟩, .string ⟨#[32, 115, 105, 110, 99, 101, 32]⟩] t) {j : Nat} (hj : j < 3) : w.cell? ⟨B, j, none⟩ = some (.string ⟨(w3 j).toArray⟩) := by
  rw [h.cell]
  have e : j = 0 ∨ j = 1 ∨ j = 2 := by omega
  rcases e with rfl | rfl | rfl <;> rfl
theorem k3_cell {w : World} {B : Nat} {t : TypeId} (h : Blk w B #[.int .i64 4, .int .i64 5, .int .i64 9] t) {j : Nat} (hj : j < 3) : w.cell? ⟨B, j, none⟩ = some (.int .i64 (k3 j)) := by
  rw [h.cell]
  have e : j = 0 ∨ j = 1 ∨ j = 2 := by omega
  rcases e with rfl | rfl | rfl <;> rfl
end Go.Proofs.YtobpacebpiabcaaDoor
