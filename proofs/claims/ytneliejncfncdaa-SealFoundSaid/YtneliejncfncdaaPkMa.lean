/- Texts Ma in one. -/
import Derived.Test.YtneliejncfncdaaPkFa
import Derived.Test.YtneliejncfncdaaPkIa
import Derived.Test.YtneliejncfncdaaPkJ
import Derived.Deep.DeepCutAuto
namespace Go.Proofs.Ytneliejncfncdaa
open Go.RowKit

def tameQ (q : Int) : Int := if q % 4 = 0 then 2 else if q % 4 = 1 then 3 else if q % 4 = 2 then 5 else 7
def tameT (q t : Int) : Int := t % (if q % 4 = 0 then 2 else 3) + 1
def tameN (q t n : Int) : Int := tameT q t + n % (tameQ q - tameT q t + 1)

set_option maxRecDepth 100000 in
set_option maxHeartbeats 1600000 in
theorem tamed_one (q0 t0 n0 r Q M : Int) (w : World) (ht : I64 t0) (hn : I64 n0) (hr : q0 % 4 = r) (hq : I64 q0)
    (hrQ : r = 0 ∧ Q = 2 ∧ M = 2 ∨ r = 1 ∧ Q = 3 ∧ M = 3 ∨ r = 2 ∧ Q = 5 ∧ M = 3 ∨ r = 3 ∧ Q = 7 ∧ M = 3) :
    Calls Try.prog 24 #[pools q0 t0 n0] w fun e w' => e = .returned (pools Q (t0 % M + 1) (t0 % M + 1 + n0 % (Q - (t0 % M + 1) + 1))) ∧ Below w.heap.size w w' := by
  have c26 : ∀ W, Calls Try.prog 26 #[.int .i64 q0, .int .i64 4] W fun e w' => e = .returned (.int .i64 r) ∧ W = w' := fun W => (fold_any q0 4 W hq ⟨by omega, by omega⟩).mono fun e w' h => ⟨by rw [h.1, hr], h.2.symm⟩
  have c26b : ∀ W, Calls Try.prog 26 #[.int .i64 t0, .int .i64 M] W fun e w' => e = .returned (.int .i64 (t0 % M)) ∧ W = w' := fun W => (fold_any t0 M W ht ⟨by omega, by omega⟩).mono fun e w' h => ⟨h.1, h.2.symm⟩
  have hT1 : 0 ≤ t0 % M := Int.emod_nonneg _ (by omega)
  have hT2 : t0 % M < M := Int.emod_lt_of_pos _ (by omega)
  have hMQ : M ≤ Q := by omega
  have hQ7 : Q ≤ 7 := by omega
  generalize t0 % M = T at *
  have c26c : ∀ W, Calls Try.prog 26 #[.int .i64 n0, .int .i64 (Q - (T + 1) + 1)] W fun e w' => e = .returned (.int .i64 (n0 % (Q - (T + 1) + 1))) ∧ W = w' := fun W => (fold_any n0 _ W hn ⟨by omega, by omega⟩).mono fun e w' h => ⟨h.1, h.2.symm⟩
  have hN1 : 0 ≤ n0 % (Q - (T + 1) + 1) := Int.emod_nonneg _ (by omega)
  have hN2 : n0 % (Q - (T + 1) + 1) < Q - (T + 1) + 1 := Int.emod_lt_of_pos _ (by omega)
  generalize n0 % (Q - (T + 1) + 1) = N at *
  have hw1 : IntKind.i64.wrap (T + 1) = T + 1 := IntWalk.i64_in _ (by omega)
  have hw2 : IntKind.i64.wrap (Q - (T + 1)) = Q - (T + 1) := IntWalk.i64_in _ (by omega)
  have hw3 : IntKind.i64.wrap (Q - (T + 1) + 1) = Q - (T + 1) + 1 := IntWalk.i64_in _ (by omega)
  have hw4 : IntKind.i64.wrap (T + 1 + N) = T + 1 + N := IntWalk.i64_in _ (by omega)
  obtain ⟨W0, hW0⟩ : ∃ W0, W0 = ((w.alloc (.cells #[.int .i64 q0, .int .i64 t0, .int .i64 n0] 35)).alloc (.cells #[.int .i64 0, .int .i64 0, .int .i64 0] 35)).alloc (.cells #[.int .i64 2, .int .i64 3, .int .i64 5, .int .i64 7] 3) := ⟨_, rfl⟩
  have hb0 : Below w.heap.size w W0 := by rw [hW0]; exact ((((Below.refl _ _).alloc (Nat.le_refl _) _).alloc (by simp) _).alloc (by simp; omega) _)
  have hblk : W0.heap[w.heap.size]? = some (.cells #[.int .i64 q0, .int .i64 t0, .int .i64 n0] 35 (0, 0)) := by
    rw [hW0]
    have h1 := heap_alloc_new w (.cells #[.int .i64 q0, .int .i64 t0, .int .i64 n0] 35)
    rw [Below.heap_alloc _ _ _ (by simp; omega), Below.heap_alloc _ _ _ (by simp)]
    exact h1
  have hblk2 : W0.heap[w.heap.size + 1]? = some (.cells #[.int .i64 0, .int .i64 0, .int .i64 0] 35 (0, 0)) := by
    rw [hW0]
    have h1 := heap_alloc_new (w.alloc (.cells #[.int .i64 q0, .int .i64 t0, .int .i64 n0] 35)) (.cells #[.int .i64 0, .int .i64 0, .int .i64 0] 35)
    rw [Below.heap_alloc _ _ _ (by simp)]
    simpa using h1
  have HW := Lib.hid hW0
  have k1 : W0.cell? ⟨w.heap.size, 1, none⟩ = some (.int .i64 t0) := by simp [World.cell?, hblk]
  have k2 : W0.cell? ⟨w.heap.size, 2, none⟩ = some (.int .i64 n0) := by simp [World.cell?, hblk]
  have HB := Lib.hid hblk
  have HB2 := Lib.hid hblk2
  have HB0 := Lib.hid hb0
  clear hr hW0 hblk hblk2 hb0 ht hn hq
  have hmin : (if 3 < Q then 3 else Q) = M := by split <;> omega
  have HMIN := Lib.hid hmin
  clear hmin
  go_enter Try.func24, Try.ntmps24
  go_upto_region 1 with fail
  go_cut [3] (fun s3 wx => s3 = .int .i64 Q ∧ wx = W0)
  case first =>
    clear hMQ hQ7 hw1 hw2 hw3 hw4 hN1 hN2 hT1 hT2 k1 k2 c26b c26c
    rcases hrQ with ⟨rfl, rfl, rfl⟩ | ⟨rfl, rfl, rfl⟩ | ⟨rfl, rfl, rfl⟩ | ⟨rfl, rfl, rfl⟩
    all_goals
      go_wp2_with (go_at_call 26; refine (c26 _).mono ?_; rintro e w' ⟨rfl, rfl⟩)
      go_meet
      exact ⟨rfl, HW.out.symm⟩
  case rest =>
    obtain ⟨rfl, rfl⟩ := hcut
    have hQ2 : 2 ≤ Q := by omega
    clear hrQ c26
    go_wp2_with fail
    refine Lex.wp_region_lex (fun w' => w'.cell? ⟨w.heap.size, 1, none⟩ = some (.int .i64 t0) ∧ w'.cell? ⟨w.heap.size, 2, none⟩ = some (.int .i64 n0)) (fun j => j != 10)
      [(0, true), (1, true), (2, true), (3, true), (4, true), (7, true), (8, true), (5, false), (6, false), (9, false), (10, false)]
      (by kernel_rfl) (by kernel_rfl) (by kernel_rfl) (by kernel_rfl) ⟨k1, k2⟩ ?_
    iterate 7 (refine Lex.lex_take (v := ?_) rfl rfl (by rfl) (fun _ hS => ?_) ?_; rotate_left 1; (focus (go_split_ands; go_simp; with_reducible rfl)); simp only [List.setIfInBounds_toArray, List.set_cons_zero, List.set_cons_succ])
    rw [HMIN.out]
    refine Lex.lex_do rfl ?_
    go_wp2_with (go_at_call 26; refine (c26b _).mono ?_; rintro e w' ⟨rfl, rfl⟩)
    refine Lex.lexQ_normal (fun _ => ⟨k1, k2⟩) ?_
    refine Lex.lex_do rfl ?_
    go_wp2_with fail
    refine Lex.lexQ_normal (fun _ => ⟨k1, k2⟩) ?_
    refine Lex.lex_do rfl ?_
    go_wp2_with fail
    refine Lex.lexQ_normal (fun _ => ⟨k1, k2⟩) ?_
    have k0 : wc.cell? ⟨w.heap.size, 0, none⟩ = some (.int .i64 q0) := by simp [World.cell?, HB.out]
    have z0 : wc.frozen? ⟨w.heap.size, 0, none⟩ = false := by simp [World.frozen?, HB.out]
    have z1 : wc.frozen? ⟨w.heap.size, 1, none⟩ = false := by simp [World.frozen?, HB.out]
    have z2 : wc.frozen? ⟨w.heap.size, 2, none⟩ = false := by simp [World.frozen?, HB.out]
    refine Lex.lex_do rfl ?_
    go_wp2_with fail
    refine Lex.lexQ_normal (fun h => absurd h (by decide)) ?_
    refine Lex.lex_nil ?_
    obtain ⟨W1, hW1⟩ : ∃ W1, W1 = (((wc.setCell ⟨w.heap.size, 0, none⟩ (.int .i64 Q)).setCell ⟨w.heap.size, 1, none⟩ (.int .i64 (T + 1))).setCell ⟨w.heap.size, 2, none⟩ (.int .i64 n0)).drew := ⟨_, rfl⟩
    rw [← hW1]
    have hB1 : W1.heap[w.heap.size]? = some (.cells #[.int .i64 Q, .int .i64 (T + 1), .int .i64 n0] 35 (0, 0)) := by
      rw [hW1]
      exact heap_setCell_same _ _ 2 #[.int .i64 Q, .int .i64 (T + 1), .int .i64 n0] 35 _ (heap_setCell_same _ _ 1 #[.int .i64 Q, .int .i64 t0, .int .i64 n0] 35 _ (heap_setCell_same _ _ 0 #[.int .i64 q0, .int .i64 t0, .int .i64 n0] 35 _ HB.out))
    have hB1b : W1.heap[w.heap.size + 1]? = some (.cells #[.int .i64 0, .int .i64 0, .int .i64 0] 35 (0, 0)) := by
      rw [hW1]
      show (((wc.setCell ⟨w.heap.size, 0, none⟩ (.int .i64 Q)).setCell ⟨w.heap.size, 1, none⟩ (.int .i64 (T + 1))).setCell ⟨w.heap.size, 2, none⟩ (.int .i64 n0)).heap[w.heap.size + 1]? = _
      rw [Below.heap_setCell _ _ _ _ (by simp), Below.heap_setCell _ _ _ _ (by simp), Below.heap_setCell _ _ _ _ (by simp)]
      exact HB2.out
    have hbl1 : Below w.heap.size w W1 := by
      rw [hW1]
      exact below_drewN' (((HB0.out.setCell (Nat.le_refl _) _).setCell (Nat.le_refl _) _).setCell (Nat.le_refl _) _) 1
    clear hW1 k0 k1 k2 z0 z1 z2 HW HB HB2 HB0
    have k1 : W1.cell? ⟨w.heap.size, 1, none⟩ = some (.int .i64 (T + 1)) := by simp [World.cell?, hB1]
    have k2 : W1.cell? ⟨w.heap.size, 2, none⟩ = some (.int .i64 n0) := by simp [World.cell?, hB1]
    have z2 : W1.frozen? ⟨w.heap.size, 2, none⟩ = false := by simp [World.frozen?, hB1]
    have HBL := Lib.hid hbl1
    have HB1 := Lib.hid hB1
    have HB1B := Lib.hid hB1b
    clear hbl1 hB1 hB1b
    go_wp2_with fail
    refine Lex.wp_region_lex (fun w' => w'.cell? ⟨w.heap.size, 1, none⟩ = some (.int .i64 (T + 1)) ∧ w'.cell? ⟨w.heap.size, 2, none⟩ = some (.int .i64 n0)) (fun j => j != 12)
      [(0, true), (1, true), (2, true), (3, true), (4, true), (5, true), (6, true), (7, true), (8, true), (9, false), (10, false), (11, false), (12, false)]
      (by kernel_rfl) (by kernel_rfl) (by kernel_rfl) (by kernel_rfl) ⟨k1, k2⟩ ?_
    iterate 9 (refine Lex.lex_take (v := ?_) rfl rfl (by rfl) (fun _ hS => ?_) ?_; rotate_left 1; (focus (go_split_ands; go_simp; with_reducible rfl)); simp only [List.setIfInBounds_toArray, List.set_cons_zero, List.set_cons_succ])
    refine Lex.lex_do rfl ?_
    go_wp2_with (go_at_call 26; refine (c26c _).mono ?_; rintro e w' ⟨rfl, rfl⟩)
    refine Lex.lexQ_normal (fun _ => ⟨k1, k2⟩) ?_
    refine Lex.lex_do rfl ?_
    go_wp2_with fail
    refine Lex.lexQ_normal (fun _ => ⟨k1, k2⟩) ?_
    refine Lex.lex_do rfl ?_
    go_wp2_with fail
    refine Lex.lexQ_normal (fun _ => ⟨k1, k2⟩) ?_
    refine Lex.lex_do rfl ?_
    go_wp2_with fail
    refine Lex.lexQ_normal (fun h => absurd h (by decide)) ?_
    refine Lex.lex_nil ?_
    obtain ⟨W2, hW2⟩ : ∃ W2, W2 = (W1.setCell ⟨w.heap.size, 2, none⟩ (.int .i64 (T + 1 + N))).drew := ⟨_, rfl⟩
    rw [← hW2]
    have hB2 : W2.heap[w.heap.size]? = some (.cells #[.int .i64 Q, .int .i64 (T + 1), .int .i64 (T + 1 + N)] 35 (0, 0)) := by
      rw [hW2]
      exact heap_setCell_same _ _ 2 #[.int .i64 Q, .int .i64 (T + 1), .int .i64 n0] 35 _ HB1.out
    have hB2b : W2.heap[w.heap.size + 1]? = some (.cells #[.int .i64 0, .int .i64 0, .int .i64 0] 35 (0, 0)) := by
      rw [hW2]
      show (W1.setCell ⟨w.heap.size, 2, none⟩ (.int .i64 (T + 1 + N))).heap[w.heap.size + 1]? = _
      rw [Below.heap_setCell _ _ _ _ (by simp)]
      exact HB1B.out
    have hbl2 : Below w.heap.size w W2 := by rw [hW2]; exact below_drewN' (HBL.out.setCell (Nat.le_refl _) _) 1
    clear hW2 k1 k2 z2 HB1 HB1B HBL
    have k0 : W2.cell? ⟨w.heap.size, 0, none⟩ = some (.int .i64 Q) := by simp [World.cell?, hB2]
    have k1 : W2.cell? ⟨w.heap.size, 1, none⟩ = some (.int .i64 (T + 1)) := by simp [World.cell?, hB2]
    have k2 : W2.cell? ⟨w.heap.size, 2, none⟩ = some (.int .i64 (T + 1 + N)) := by simp [World.cell?, hB2]
    have e0 : W2.cell? ⟨w.heap.size + 1, 0, none⟩ = some (.int .i64 0) := by simp [World.cell?, hB2b]
    have e1 : W2.cell? ⟨w.heap.size + 1, 1, none⟩ = some (.int .i64 0) := by simp [World.cell?, hB2b]
    have e2 : W2.cell? ⟨w.heap.size + 1, 2, none⟩ = some (.int .i64 0) := by simp [World.cell?, hB2b]
    have z0 : W2.frozen? ⟨w.heap.size + 1, 0, none⟩ = false := by simp [World.frozen?, hB2b]
    have z1 : W2.frozen? ⟨w.heap.size + 1, 1, none⟩ = false := by simp [World.frozen?, hB2b]
    have z2 : W2.frozen? ⟨w.heap.size + 1, 2, none⟩ = false := by simp [World.frozen?, hB2b]
    clear hB2 hB2b
    go_wp2
    refine bodyPost_ret (v := pools Q (T + 1) (T + 1 + N)) (by simp [results, Try.results24, go_sem, e0, e1, e2]) rfl ⟨rfl, ?_⟩
    exact ((hbl2.setCell (by simp) _).setCell (by simp) _).setCell (by simp) _

theorem tamed_any (q0 t0 n0 : Int) (w : World) (hq : I64 q0) (ht : I64 t0) (hn : I64 n0) :
    Calls Try.prog 24 #[pools q0 t0 n0] w fun e w' => e = .returned (pools (tameQ q0) (tameT q0 t0) (tameN q0 t0 n0)) ∧ Below w.heap.size w w' := by
  have h0 := Int.emod_nonneg q0 (show (4 : Int) ≠ 0 by omega)
  have h1 := Int.emod_lt_of_pos q0 (show (0 : Int) < 4 by omega)
  have h2 : q0 % 4 = 0 ∧ tameQ q0 = 2 ∧ (if q0 % 4 = 0 then (2 : Int) else 3) = 2 ∨ q0 % 4 = 1 ∧ tameQ q0 = 3 ∧ (if q0 % 4 = 0 then (2 : Int) else 3) = 3 ∨ q0 % 4 = 2 ∧ tameQ q0 = 5 ∧ (if q0 % 4 = 0 then (2 : Int) else 3) = 3 ∨ q0 % 4 = 3 ∧ tameQ q0 = 7 ∧ (if q0 % 4 = 0 then (2 : Int) else 3) = 3 := by
    unfold tameQ
    have : q0 % 4 = 0 ∨ q0 % 4 = 1 ∨ q0 % 4 = 2 ∨ q0 % 4 = 3 := by omega
    rcases this with h | h | h | h <;> simp [h]
  exact tamed_one q0 t0 n0 _ _ _ w ht hn rfl hq h2

/-- What is known of tamed pools. -/
theorem tame_facts (q0 t0 n0 : Int) : primeB (tameQ q0) = true ∧ 2 ≤ tameQ q0 ∧ tameQ q0 ≤ 7 ∧ 1 ≤ tameT q0 t0 ∧ tameT q0 t0 ≤ 3 ∧ tameT q0 t0 ≤ tameQ q0 ∧ tameT q0 t0 ≤ tameN q0 t0 n0 ∧ tameN q0 t0 n0 ≤ tameQ q0 := by
  have h0 := Int.emod_nonneg q0 (show (4 : Int) ≠ 0 by omega)
  have h1 := Int.emod_lt_of_pos q0 (show (0 : Int) < 4 by omega)
  have hQ : tameQ q0 = 2 ∧ (if q0 % 4 = 0 then (2 : Int) else 3) = 2 ∨ (tameQ q0 = 3 ∨ tameQ q0 = 5 ∨ tameQ q0 = 7) ∧ (if q0 % 4 = 0 then (2 : Int) else 3) = 3 := by
    unfold tameQ
    have : q0 % 4 = 0 ∨ q0 % 4 = 1 ∨ q0 % 4 = 2 ∨ q0 % 4 = 3 := by omega
    rcases this with h | h | h | h <;> simp [h]
  have hT : 1 ≤ tameT q0 t0 ∧ tameT q0 t0 ≤ (if q0 % 4 = 0 then (2 : Int) else 3) := by
    unfold tameT
    generalize (if q0 % 4 = 0 then (2 : Int) else 3) = M at *
    have a := Int.emod_nonneg t0 (show M ≠ 0 by omega)
    have b := Int.emod_lt_of_pos t0 (show 0 < M by omega)
    omega
  have hp : primeB (tameQ q0) = true := by
    rcases hQ with ⟨h, _⟩ | ⟨h | h | h, _⟩ <;> rw [h] <;> rfl
  unfold tameN
  generalize (if q0 % 4 = 0 then (2 : Int) else 3) = M at *
  generalize tameQ q0 = Q at *
  generalize tameT q0 t0 = T at *
  have a := Int.emod_nonneg n0 (show Q - T + 1 ≠ 0 by omega)
  have b := Int.emod_lt_of_pos n0 (show 0 < Q - T + 1 by omega)
  exact ⟨hp, by omega, by omega, by omega, by omega, by omega, by omega, by omega⟩
theorem tame_pow {q t : Int} (hq : 2 ≤ q ∧ q ≤ 7) (ht : 1 ≤ t ∧ t ≤ 3) : q ^ t.toNat ≤ 343 := by
  have h : t.toNat = 1 ∨ t.toNat = 2 ∨ t.toNat = 3 := by omega
  have h2 : q * q ≤ 7 * 7 := Int.mul_le_mul hq.2 hq.2 (by omega) (by omega)
  have h3 : q * q * q ≤ 7 * 7 * 7 := Int.mul_le_mul h2 hq.2 (by omega) (by omega)
  rcases h with h | h | h <;> rw [h]
  · rw [show q ^ 1 = q by simp [Int.pow_succ]]; omega
  · rw [show q ^ 2 = q * q by simp [Int.pow_succ]]; omega
  · rw [show q ^ 3 = q * q * q by simp [Int.pow_succ]]; omega
end Go.Proofs.Ytneliejncfncdaa
